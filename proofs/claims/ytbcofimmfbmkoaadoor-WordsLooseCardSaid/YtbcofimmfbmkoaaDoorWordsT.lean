/- The walks of the reference's body and Unquote, chapter 3. -/
import Derived.Test.YtbcofimmfbmkoaaDoorWordsS
namespace Go.Proofs.YtbcofimmfbmkoaaDoor
open Go.RowKit Go.Shelf Words3

/-- What the reference's body hands back. -/
def RBPost (x : Body) (s : ByteArray) (e : Ending) : Prop :=
  (x.ok = true → e = .returned (.tuple #[.string ⟨x.text.toArray⟩, .int .i64 (posOf s x.rest : Int)])) ∧ (x.ok = false → e = .returned (.tuple #[.string ⟨#[]⟩, .int .i64 (-1)]))
theorem RBPost.yes {t r : List UInt8} {s : ByteArray} {e : Ending} {n : Nat} (hn : posOf s r = n) (h : e = .returned (.tuple #[.string ⟨t.toArray⟩, .int .i64 (n : Int)])) : RBPost ⟨t, true, r⟩ s e := ⟨fun _ => by rw [h, hn], fun h => by cases h⟩
theorem RBPost.no {t r : List UInt8} {s : ByteArray} {e : Ending} (h : e = .returned (.tuple #[.string ⟨#[]⟩, .int .i64 (-1)])) : RBPost ⟨t, false, r⟩ s e := ⟨fun h => (by cases h), fun _ => h⟩
theorem bodyR_quote {s : ByteArray} {k : Nat} (h : k < s.size) (hc : getz s k = 34) : bodyR (s.data.toList.drop k) = match rqF (s.data.toList.drop k) with | some (t, r) => (if endB r = true then ⟨t, true, r⟩ else ⟨[], false, []⟩) | none => ⟨[], false, []⟩ := by
  unfold bodyR rqF
  rw [(head_drop s k h).1, hc, if_pos rfl, if_pos rfl]
  cases quotedL ((s.data.toList.drop k).drop 1) with
  | none => rfl
  | some p => rfl
theorem bodyR_plain {s : ByteArray} {k : Nat} (h : ¬ (k < s.size ∧ getz s k = 34)) : bodyR (s.data.toList.drop k) = if bareB ((s.data.toList.drop k).take (idx 32 (s.data.toList.drop k))) = true then ⟨(s.data.toList.drop k).take (idx 32 (s.data.toList.drop k)), true, (s.data.toList.drop k).drop (idx 32 (s.data.toList.drop k))⟩ else ⟨[], false, []⟩ := by
  unfold bodyR
  rw [if_neg]
  rcases Nat.lt_or_ge k s.size with h1 | h1
  · rw [(head_drop s k h1).1]
    exact fun e => h ⟨h1, Option.some.inj e⟩
  · rw [drop_end s k h1]; simp
theorem rqF_rest {s : ByteArray} {k : Nat} (_hk : k ≤ s.size) {t r : List UInt8} (h : rqF (s.data.toList.drop k) = some (t, r)) : ∃ j, r = s.data.toList.drop j ∧ k < j ∧ j ≤ s.size := by
  unfold rqF at h
  split at h
  · rename_i h1
    obtain ⟨i, h2, h3, h4, _⟩ := qGo_rest _ _ _ _ _ h
    rw [List.drop_drop, List.length_drop, bytes_len] at h4
    rw [List.drop_drop, List.drop_drop] at h2
    have : k < s.size := by
      rcases Nat.lt_or_ge k s.size with h5 | h5
      · exact h5
      · rw [drop_end s k h5] at h1; cases h1
    exact ⟨k + (1 + i), h2, by omega, by omega⟩
  · cases h
theorem getz_list (s : ByteArray) (k i : Nat) (h : i < (s.data.toList.drop k).length) : (s.data.toList.drop k)[i] = getz s (k + i) := by
  rw [List.length_drop, bytes_len] at h
  rw [List.getElem_drop, ← getz_get s (k + i) (by omega)]
  exact get_list s (k + i) (by omega)
theorem idx_where (c : UInt8) (s : ByteArray) (k j : Nat) (hkj : k ≤ j) (hj : j ≤ s.size) (hb : ∀ i, k ≤ i → i < j → getz s i ≠ c) (he : j < s.size → getz s j = c) : idx c (s.data.toList.drop k) = j - k := by
  refine idx_eq c _ _ (by rw [List.length_drop, bytes_len]; omega) (fun h => ?_) (fun i hi hlt => ?_)
  · rw [getz_list, show k + (j - k) = j by omega]
    rw [List.length_drop, bytes_len] at h
    exact he (by omega)
  · rw [getz_list]
    exact hb _ (by omega) (by omega)
theorem endB_drop (s : ByteArray) (j : Nat) (hj : j ≤ s.size) : endB (s.data.toList.drop j) = true ↔ (j < s.size → getz s j = 32) := by
  rw [endB_iff _ j (by rw [bytes_len]; exact hj)]
  constructor
  · intro h h1
    have := h (by rw [bytes_len]; exact h1)
    rw [get_list s j h1, getz_get s j h1] at this; exact this
  · intro h h1
    rw [bytes_len] at h1
    rw [get_list s j h1, getz_get s j h1]; exact h h1

set_option maxHeartbeats 4000000 in
theorem Rbody_any (W : World) (k : Nat) (s : ByteArray) (hs : s.size ≤ 100000) (hk : k ≤ s.size) (x : Body) (hx : bodyR (s.data.toList.drop k) = x) :
    Calls Tryd.prog 60 #[.string s, .int .i64 (k : Int)] W fun e w' => RBPost x s e ∧ Below W.heap.size W w' := by
  have j2 : (0 : Int) ≤ (k : Int) := by omega
  by_cases hq : k < s.size ∧ getz s k = 34
  · obtain ⟨hlt, h34⟩ := hq
    have j3 : (k : Int) < s.size := by omega
    have hg : s[k] = getz s k := getz_get s k hlt
    have n3 : ((s[k].toNat : Nat) : Int) = 34 := by rw [hg, h34]; rfl
    have HQ := Lib.hid (Rquoted_any W k s hs hk _ rfl)
    have hbx := (bodyR_quote hlt h34).symm.trans hx
    have hrest := fun t r => rqF_rest (s := s) (k := k) (t := t) (r := r) hk
    clear hg h34 hx
    generalize rqF (s.data.toList.drop k) = q at *
    cases q with
    | none =>
      dsimp only at hbx
      subst hbx
      clear hrest
      go_enter Tryd.func60, Tryd.ntmps60
      go_wp2_with fail
      refine HQ.out.mono ?_
      rintro e w2 ⟨he, hb⟩
      change e = _ at he
      subst he
      go_wp2_with fail
      refine bodyPost_ret (results_tmp2 rfl _ _ _) rfl ?_
      exact ⟨RBPost.no rfl, hb⟩
    | some p =>
      obtain ⟨t, r⟩ := p
      obtain ⟨j, rfl, hj1, hj2⟩ := hrest t r rfl
      dsimp only at hbx
      have hps := posOf_drop s j hj2
      have HP := Lib.hid hps
      have he := endB_drop s j hj2
      have d0 := lt_f (a := (j : Int)) (b := 0) (by omega)
      have d1 : (0 : Int) ≤ (j : Int) := by omega
      clear hrest hps
      rcases Nat.lt_or_ge j s.size with h1 | h1
      · have d2 : (j : Int) < s.size := by omega
        have hg : s[j] = getz s j := getz_get s j h1
        by_cases hc : getz s j = 32
        · have n4 : (((s[j].toNat : Nat) : Int) != 32) = false := by rw [hg, hc]; rfl
          rw [if_pos (he.2 fun _ => hc)] at hbx
          subst hbx
          clear hg he hc
          go_enter Tryd.func60, Tryd.ntmps60
          go_wp2_with fail
          refine HQ.out.mono ?_
          rintro e w2 ⟨he, hb⟩
          change e = .returned (.tuple #[.string ⟨t.toArray⟩, .int .i64 ((posOf s (s.data.toList.drop j) : Nat) : Int)]) at he
          rw [HP.out] at he
          subst he
          go_wp2_with fail
          refine bodyPost_ret (results_tmp2 rfl _ _ _) rfl ?_
          exact ⟨RBPost.yes HP.out rfl, hb⟩
        · have n4 : (((s[j].toNat : Nat) : Int) != 32) = true := by
            rw [bne_iff_ne, hg]; intro h; exact hc (UInt8.toNat_inj.1 (by show _ = 32; omega))
          rw [if_neg (fun h => hc (he.1 h h1))] at hbx
          subst hbx
          clear hg he hc
          go_enter Tryd.func60, Tryd.ntmps60
          go_wp2_with fail
          refine HQ.out.mono ?_
          rintro e w2 ⟨he, hb⟩
          change e = .returned (.tuple #[.string ⟨t.toArray⟩, .int .i64 ((posOf s (s.data.toList.drop j) : Nat) : Int)]) at he
          rw [HP.out] at he
          subst he
          go_wp2_with fail
          refine bodyPost_ret (results_tmp2 rfl _ _ _) rfl ?_
          exact ⟨RBPost.no rfl, hb⟩
      · obtain rfl : j = s.size := by omega
        rw [if_pos (he.2 fun h => absurd h (by omega))] at hbx
        subst hbx
        clear he
        have d2 := lt_f (a := (s.size : Int)) (b := s.size) (by omega)
        go_enter Tryd.func60, Tryd.ntmps60
        go_wp2_with fail
        refine HQ.out.mono ?_
        rintro e w2 ⟨he, hb⟩
        change e = .returned (.tuple #[.string ⟨t.toArray⟩, .int .i64 ((posOf s (s.data.toList.drop s.size) : Nat) : Int)]) at he
        rw [HP.out] at he
        subst he
        go_wp2_with fail
        refine bodyPost_ret (results_tmp2 rfl _ _ _) rfl ?_
        exact ⟨RBPost.yes HP.out rfl, hb⟩
  · have HX := Lib.hid ((bodyR_plain hq).symm.trans hx)
    clear hx
    have fin : ∀ j, k ≤ j → j ≤ s.size → (∀ i, k ≤ i → i < j → getz s i ≠ 32) → (j < s.size → getz s j = 32) → x = if bareB ((s.data.toList.drop k).take (j - k)) = true then ⟨(s.data.toList.drop k).take (j - k), true, s.data.toList.drop j⟩ else ⟨[], false, []⟩ := by
      intro j h1 h2 h3 h4
      have h5 := HX.out
      rw [idx_where 32 s k j h1 h2 h3 h4, List.drop_drop, show k + (j - k) = j by omega] at h5
      exact h5.symm
    have HF := Lib.hid fin
    clear fin HX
    rcases Nat.lt_or_ge k s.size with hlt | hge
    · have j3 : (k : Int) < s.size := by omega
      have hg : s[k] = getz s k := getz_get s k hlt
      have n3 : (((s[k].toNat : Nat) : Int) == 34) = false := by
        rw [beq_eq_false_iff_ne, hg]; intro h; exact hq ⟨hlt, UInt8.toNat_inj.1 (by show _ = 34; omega)⟩
      clear hg hq
      go_enter Tryd.func60, Tryd.ntmps60
      go_wp2_with fail
      go_loop [8] (fun o => ∃ j : Nat, o = .int .i64 j ∧ k ≤ j ∧ j ≤ s.size ∧ Hid (∀ i, k ≤ i → i < j → getz s i ≠ 32)) (fun o => s.size - (intOf o).toNat)
      case atStart => exact ⟨k, rfl, Nat.le_refl _, hk, Lib.hid (fun i h1 h2 => absurd h1 (by omega))⟩
      case round =>
        obtain ⟨j, rfl, hkj, hjs, hall⟩ := hrel
        have d1 : (0 : Int) ≤ (j : Int) := by omega
        have out : (j < s.size → getz s j = 32) → Hid (x = if bareB ((s.data.toList.drop k).take (j - k)) = true then ⟨(s.data.toList.drop k).take (j - k), true, s.data.toList.drop j⟩ else ⟨[], false, []⟩) := fun h => Lib.hid (HF.out j hkj hjs hall.out h)
        have hsub := sub_str s k j hkj hjs
        rcases Nat.lt_or_ge j s.size with h1 | h1
        · have d2 : (j : Int) < s.size := by omega
          have hg : s[j] = getz s j := getz_get s j h1
          by_cases hc : getz s j = 32
          · have n4 : (((s[j].toNat : Nat) : Int) != 32) = false := by rw [hg, hc]; rfl
            have HX := out (fun _ => hc)
            have HP := Lib.hid (posOf_drop s j hjs)
            obtain ⟨Y, hY⟩ : ∃ Y, Y = (s.data.toList.drop k).take (j - k) := ⟨_, rfl⟩
            rw [← hY] at hsub HX
            have hYl : Y.length ≤ 100000 := by rw [hY, List.length_take, List.length_drop, bytes_len]; omega
            have HB := Lib.hid (show Calls Tryd.prog 39 #[.string ⟨Y.toArray⟩] W fun e w' => e = .returned (.bool (bareB Y)) ∧ W = w' from Rplain_any ⟨Y.toArray⟩ (show Y.length ≤ 1000000 by omega) W)
            clear hg hc out hall HF hY
            cases hb : bareB Y with
            | true =>
              rw [hb] at HB HX
              clear hb
              go_wp2_with fail
              refine HB.out.mono ?_
              rintro e w2 ⟨rfl, rfl⟩
              go_wp2_with fail
              refine bodyPost_ret (results_tmp2 rfl _ _ _) rfl ?_
              rw [HX.out]
              exact ⟨RBPost.yes HP.out rfl, Below.refl _ _⟩
            | false =>
              rw [hb] at HB HX
              clear hb
              go_wp2_with fail
              refine HB.out.mono ?_
              rintro e w2 ⟨rfl, rfl⟩
              go_wp2_with fail
              refine bodyPost_ret (results_tmp2 rfl _ _ _) rfl ?_
              rw [HX.out]
              exact ⟨RBPost.no rfl, Below.refl _ _⟩
          · have n4 : (((s[j].toNat : Nat) : Int) != 32) = true := by
              rw [bne_iff_ne, hg]; intro h; exact hc (UInt8.toNat_inj.1 (by show _ = 32; omega))
            have hnx : Hid (∀ i, k ≤ i → i < j + 1 → getz s i ≠ 32) := Lib.hid (fun i h3 h4 => by
              rcases Nat.lt_or_ge i j with h5 | h5
              · exact hall.out i h3 h5
              · obtain rfl : i = j := by omega
                exact hc)
            clear hg hc out hall HF hsub
            go_wp2_with fail
            exact ⟨⟨j + 1, by go_num, by omega, h1, hnx⟩, by simp only [intOf]; omega⟩
        · obtain rfl : j = s.size := by omega
          have d2 := lt_f (a := (s.size : Int)) (b := s.size) (by omega)
          have HX := out (fun h => absurd h (by omega))
          have HP := Lib.hid (posOf_drop s s.size hjs)
          obtain ⟨Y, hY⟩ : ∃ Y, Y = (s.data.toList.drop k).take (s.size - k) := ⟨_, rfl⟩
          rw [← hY] at hsub HX
          have hYl : Y.length ≤ 100000 := by rw [hY, List.length_take, List.length_drop, bytes_len]; omega
          have HB := Lib.hid (show Calls Tryd.prog 39 #[.string ⟨Y.toArray⟩] W fun e w' => e = .returned (.bool (bareB Y)) ∧ W = w' from Rplain_any ⟨Y.toArray⟩ (show Y.length ≤ 1000000 by omega) W)
          clear out hall HF hY
          cases hb : bareB Y with
          | true =>
            rw [hb] at HB HX
            clear hb
            go_wp2_with fail
            refine HB.out.mono ?_
            rintro e w2 ⟨rfl, rfl⟩
            go_wp2_with fail
            refine bodyPost_ret (results_tmp2 rfl _ _ _) rfl ?_
            rw [HX.out]
            exact ⟨RBPost.yes HP.out rfl, Below.refl _ _⟩
          | false =>
            rw [hb] at HB HX
            clear hb
            go_wp2_with fail
            refine HB.out.mono ?_
            rintro e w2 ⟨rfl, rfl⟩
            go_wp2_with fail
            refine bodyPost_ret (results_tmp2 rfl _ _ _) rfl ?_
            rw [HX.out]
            exact ⟨RBPost.no rfl, Below.refl _ _⟩
    · obtain rfl : k = s.size := by omega
      have hsub := sub_str s s.size s.size (Nat.le_refl _) (Nat.le_refl _)
      have d2 := lt_f (a := (s.size : Int)) (b := s.size) (by omega)
      have HX := Lib.hid (HF.out s.size (Nat.le_refl _) (Nat.le_refl _) (fun i h1 h2 => absurd h1 (by omega)) (fun h => absurd h (by omega)))
      have hz : (s.data.toList.drop s.size).take (s.size - s.size) = [] := by rw [Nat.sub_self]; rfl
      rw [hz] at hsub HX
      rw [show bareB [] = false from rfl, if_neg (by simp)] at HX
      have HB := Lib.hid (show Calls Tryd.prog 39 #[.string ⟨#[]⟩] W fun e w' => e = .returned (.bool false) ∧ W = w' from Rplain_any ⟨#[]⟩ (by decide) W)
      clear hz HF hq
      go_enter Tryd.func60, Tryd.ntmps60
      go_wp2_with fail
      go_loop [8] (fun o => o = .int .i64 s.size) (fun o => s.size - (intOf o).toNat)
      case atStart => rfl
      case round =>
        obtain rfl := hrel
        go_wp2_with fail
        refine HB.out.mono ?_
        rintro e w2 ⟨rfl, rfl⟩
        go_wp2_with fail
        refine bodyPost_ret (results_tmp2 rfl _ _ _) rfl ?_
        rw [HX.out]
        exact ⟨RBPost.no rfl, Below.refl _ _⟩
end Go.Proofs.YtbcofimmfbmkoaaDoor
