/- The walk of the reference's row, chapter 3. -/
import Derived.Test.YtbcofimmfbmkoaaDoorWordsV
import Derived.Test.YtbcofimmfbmkoaaDoorWordsM
namespace Go.Proofs.YtbcofimmfbmkoaaDoor
open Go.RowKit Go.Shelf Words3

/-- The words of a line from a place on. -/
def restAt (s : ByteArray) (j : Nat) : List Wd × Option Nat := rowOf (wordsGo (s.size - j + 1) j (s.data.toList.drop j))
theorem restAt_zero (s : ByteArray) : restAt s 0 = rowF s.data.toList := by
  unfold restAt rowF wordsF
  rw [List.drop_zero, bytes_len]; rfl
theorem restAt_end (s : ByteArray) (j : Nat) (h : s.size ≤ j) : restAt s j = ([], none) := by
  unfold restAt
  rw [drop_end s j h]; rfl
theorem wordsGo_cons (f n : Nat) (c : UInt8) (r : List UInt8) : wordsGo (f + 1) n (c :: r) = if c = 32 then wordsGo f (n + 1) r else if c = 35 then [] else
      if (wordF (c :: r)).body.ok = true then (⟨n, (wordF (c :: r)).key, (wordF (c :: r)).body.text⟩, true) :: wordsGo f (n + ((c :: r).length - (wordF (c :: r)).body.rest.length)) (wordF (c :: r)).body.rest
      else [(⟨n, (wordF (c :: r)).key, (wordF (c :: r)).body.text⟩, false)] := rfl
theorem restAt_hash (s : ByteArray) (j : Nat) (h : j < s.size) (hc : getz s j = 35) : restAt s j = ([], none) := by
  unfold restAt
  rw [drop_getz s j h, wordsGo_cons, hc]; rfl
theorem restAt_blank (s : ByteArray) (j : Nat) (h : j < s.size) (hc : getz s j = 32) : restAt s j = restAt s (j + 1) := by
  unfold restAt
  rw [drop_getz s j h, wordsGo_cons, hc, if_pos rfl, wordsGo_fuel _ (s.size - (j + 1) + 1) _ _ (by rw [List.length_drop, bytes_len]; omega) (by rw [List.length_drop, bytes_len]; omega)]
theorem restAt_bad (s : ByteArray) (j : Nat) (h : j < s.size) (h1 : getz s j ≠ 32) (h2 : getz s j ≠ 35) (h3 : (wordF (s.data.toList.drop j)).body.ok = false) : restAt s j = ([], some j) := by
  unfold restAt
  rw [drop_getz s j h] at h3
  rw [drop_getz s j h, wordsGo_cons, if_neg h1, if_neg h2, h3]; rfl
theorem restAt_word (s : ByteArray) (j : Nat) (h : j < s.size) (h1 : getz s j ≠ 32) (h2 : getz s j ≠ 35) {x : WordR} (hx : wordF (s.data.toList.drop j) = x) (h3 : x.body.ok = true) {j' : Nat} (hr : x.body.rest = s.data.toList.drop j') (hj : j < j') (hj' : j' ≤ s.size) :
    restAt s j = (⟨j, x.key, x.body.text⟩ :: (restAt s j').1, (restAt s j').2) := by
  have hl : (s.data.toList.drop j).length = s.size - j := by rw [List.length_drop, bytes_len]
  unfold restAt
  rw [drop_getz s j h] at hx hl ⊢
  rw [wordsGo_cons, if_neg h1, if_neg h2, hx, if_pos h3, hr, hl, List.length_drop, bytes_len, show j + (s.size - j - (s.size - j')) = j' by omega,
    wordsGo_fuel _ (s.size - j' + 1) _ _ (by rw [List.length_drop, bytes_len]; omega) (by rw [List.length_drop, bytes_len]; omega)]
  rfl
theorem wordF_rest' (s : ByteArray) (j : Nat) (hj : j ≤ s.size) (x : WordR) (hx : wordF (s.data.toList.drop j) = x) (hok : x.body.ok = true) : ∃ j', x.body.rest = s.data.toList.drop j' ∧ j < j' ∧ j' ≤ s.size := by
  obtain ⟨i, h1, h2, h3, _⟩ := wordF_rest (s.data.toList.drop j) (by rw [hx]; exact hok)
  rw [List.length_drop, bytes_len] at h3
  rw [hx, List.drop_drop] at h1
  exact ⟨j + i, h1, by omega, by omega⟩
/-- What the reference's row hands back. -/
def RRowPost (R : List Wd × Option Nat) (B : Nat) (e : Ending) (w' : World) : Prop :=
  (∀ p, R.2 = some p → e = .returned (.tuple #[.slice none 0 0, .int .i64 (p : Int)])) ∧ (R.2 = none → ∃ v, e = .returned (.tuple #[v, .int .i64 (-1)]) ∧ Ws w' B v R.1)

set_option maxHeartbeats 4000000 in
set_option maxRecDepth 100000 in
theorem Rrow_any (W : World) (s : ByteArray) (hs : s.size ≤ 100000) :
    Calls Tryd.prog 36 #[.string s] W fun e w' => RRowPost (rowF s.data.toList) W.heap.size e w' ∧ Below W.heap.size W w' := by
  have HR := Lib.hid (restAt_zero s)
  obtain ⟨R, hR⟩ : ∃ R, R = rowF s.data.toList := ⟨_, rfl⟩
  rw [← hR] at HR ⊢
  clear hR
  go_enter Tryd.func36, Tryd.ntmps36
  go_wp2_with fail
  go_loopw [4, 5] (fun o a wr => ∃ (j : Nat) (pre : List Wd), a = .int .i64 j ∧ j ≤ s.size ∧ pre.length ≤ j ∧ Ws wr W.heap.size o pre ∧ Below W.heap.size W wr ∧ Hid (R = (pre ++ (restAt s j).1, (restAt s j).2))) (fun _ a _ => s.size - (intOf a).toNat)
  case atStart => exact ⟨0, [], rfl, Nat.zero_le _, Nat.le_refl _, Ws.nil _ _, Below.refl _ _, Lib.hid (by rw [HR.out]; rfl)⟩
  case round =>
    obtain ⟨j, pre, rfl, hj, hpl, hW, hbl, hRj⟩ := hrel
    obtain ⟨V, rfl⟩ : ∃ V, V = wr := ⟨wr, rfl⟩
    clear HR
    have hbw := hbl.size
    have d1 : (0 : Int) ≤ (j : Int) := by omega
    have fin : restAt s j = ([], none) → Hid (∀ e, e = .returned (.tuple #[u4, .int .i64 (-1)]) → RRowPost R W.heap.size e V ∧ Below W.heap.size W V) := fun h => Lib.hid (fun e he => by
      have h1 := hRj.out
      rw [h, List.append_nil] at h1
      refine ⟨⟨fun p hp => ?_, fun _ => ⟨u4, he, ?_⟩⟩, hbl⟩
      · rw [h1] at hp; cases hp
      · rw [h1]; exact hW)
    rcases Nat.lt_or_ge j s.size with h1 | h1
    · have d2 : (j : Int) < s.size := by omega
      have hg : s[j] = getz s j := getz_get s j h1
      by_cases c1 : getz s j = 35
      · have n1 : (((s[j].toNat : Nat) : Int) != 35) = false := by rw [hg, c1]; rfl
        have hf := fin (restAt_hash s j h1 c1)
        clear hg c1 fin
        go_wp2_with fail
        refine bodyPost_ret (results_tmp2 rfl _ _ _) rfl ?_
        exact hf.out _ rfl
      · have n1 : (((s[j].toNat : Nat) : Int) != 35) = true := by
          rw [bne_iff_ne, hg]; intro h; exact c1 (UInt8.toNat_inj.1 (by show _ = 35; omega))
        by_cases c2 : getz s j = 32
        · have n2 : ((s[j].toNat : Nat) : Int) = 32 := by rw [hg, c2]; rfl
          have hnx := Lib.hid (restAt_blank s j h1 c2)
          clear hg c1 c2 fin
          go_wp2_with fail
          exact ⟨⟨j + 1, pre, by go_num, h1, by omega, hW, hbl, Lib.hid (by rw [← hnx.out]; exact hRj.out)⟩, by simp only [intOf]; omega⟩
        · have n2 : (((s[j].toNat : Nat) : Int) == 32) = false := by
            rw [beq_eq_false_iff_ne, hg]; intro h; exact c2 (UInt8.toNat_inj.1 (by show _ = 32; omega))
          have HW := Lib.hid (Rword_any V j s hs hj (wordRef (s.data.toList.drop j)) rfl)
          obtain ⟨r1, r2⟩ := wordRef_eq (s.data.toList.drop j)
          obtain ⟨x, hx⟩ : ∃ x, wordF (s.data.toList.drop j) = x := ⟨_, rfl⟩
          have hbad := restAt_bad s j h1 c2 c1
          have hgood := restAt_word s j h1 c2 c1 hx
          have hrest := wordF_rest' s j hj x hx
          rw [hx] at r1 r2 hbad
          cases hok : x.body.ok with
          | false =>
            have hRR := hRj.out
            rw [hbad hok] at hRR
            have HRR := Lib.hid hRR
            rw [hok] at r1
            have r1 := Lib.hid r1
            clear hg c1 c2 fin hbad hgood hrest r2 hRR
            go_wp2_with fail
            refine HW.out.mono ?_
            rintro e w2 ⟨he, hb⟩
            obtain ⟨key, rfl⟩ := he.2 r1.out
            have hb2 := hbl.trans (hb.mono hbw)
            clear he
            go_wp2_with fail
            refine bodyPost_ret (results_tmp2 rfl _ _ _) rfl ?_
            refine ⟨⟨fun p hp => ?_, fun hp => ?_⟩, hb2.alloc (Nat.le_trans hbw hb.size) _⟩
            · rw [HRR.out] at hp; cases hp; rfl
            · rw [HRR.out] at hp; cases hp
          | true =>
            obtain ⟨j', e1, e2, e3⟩ := hrest hok
            have hRR := hRj.out
            rw [hgood hok e1 e2 e3] at hRR
            have HRR := Lib.hid hRR
            rw [r2 hok] at HW
            have HP := Lib.hid (posOf_drop s j' e3)
            have HO := Lib.hid (And.intro hok e1)
            have d3 := lt_f (a := (j' : Int)) (b := 0) (by omega)
            clear hg c1 c2 fin hbad hgood hrest r2 hRR r1 hok e1 hx
            go_wp2_with fail
            refine HW.out.mono ?_
            rintro e w2 ⟨he, hb⟩
            have he := he.1 HO.out.1
            rw [HO.out.2, HP.out] at he
            subst he
            clear HW
            obtain ⟨key, text, ok, rest⟩ := x
            dsimp only at HO HRR
            have hb2 := hbl.trans (hb.mono hbw)
            have hW2 := hW.below hb
            have hbw2 := hb2.size
            obtain ⟨i0, hi, hz0, hz1, hz2⟩ := info_parts infoWord
            obtain ⟨w3, hw3⟩ : ∃ w3, w3 = w2.alloc (.cells #[.int .i64 (j : Int), .string ⟨key.toArray⟩, .string ⟨text.toArray⟩] 46) := ⟨_, rfl⟩
            have hnc := new_cells w3 #[.int .i64 (j : Int), .string ⟨key.toArray⟩, .string ⟨text.toArray⟩] 46 [.int .i64 (j : Int), .string ⟨key.toArray⟩, .string ⟨text.toArray⟩] rfl
            have h1c : ∀ u ∈ [Value.int .i64 (j : Int), .string ⟨key.toArray⟩, .string ⟨text.toArray⟩], u.oneCell' = true := by have := wcell_one ⟨j, key, text⟩; unfold wcell at this; exact this
            have hs3 : w3.heap.size = w2.heap.size + 1 := by rw [hw3]; exact World.size_alloc ..
            have e4 : (w3.alloc (.cells #[.int .i64 (j : Int), .string ⟨key.toArray⟩, .string ⟨text.toArray⟩] 46)).ownsRow W.heap.size 46 3 u4 pre.length (wcells pre) := by
              rw [hw3]; exact World.ownsRow.alloc (World.ownsRow.alloc hW2 _) _
            have b3 : W.heap.size ≤ (w3.alloc (.cells #[.int .i64 (j : Int), .string ⟨key.toArray⟩, .string ⟨text.toArray⟩] 46)).heap.size := by rw [World.size_alloc]; omega
            have b4 : Below W.heap.size W (w3.alloc (.cells #[.int .i64 (j : Int), .string ⟨key.toArray⟩, .string ⟨text.toArray⟩] 46)) := by
              rw [hw3]; exact (hb2.alloc hbw2 _).alloc (by rw [World.size_alloc]; omega) _
            have hlt := fun k hk => (World.ownsRow.lt e4 k hk).1
            rw [hs3] at hnc
            rw [hw3] at hnc e4 b3 b4
            have hpl2 : pre.length + 1 ≤ 1000000 := by omega
            have hpl3 : pre.length + 1 ≤ j' := by omega
            clear hw3 hs3 hW hbl hb
            go_wp2_with (at_builtin; refine wpList_append_own _ rfl _ _ 37 rfl W.heap.size 46 i0 (.agg #[.int .i64 0, .string ⟨#[]⟩, .string ⟨#[]⟩]) 3 40 Tryd.underlying37 hi hz0 hz1 hz2 rfl (by decide) _ _ _ rfl e4 ⟨w2.heap.size + 1, 0, none⟩ 1 1 _ rfl rfl hnc h1c (by unfold maxLen; omega) (by omega) b3 ?_; intro v' w' hown hgr _)
            refine ⟨⟨j', pre ++ [⟨j, key, text⟩], rfl, e3, by rw [List.length_append]; exact hpl3, ?_, b4.grown hgr b3 hlt, Lib.hid (by rw [HRR.out]; simp)⟩, by simp only [intOf]; omega⟩
            unfold Ws
            rw [List.length_append, wcells_snoc]
            exact hown
    · have d2 := lt_f (a := (j : Int)) (b := s.size) (by omega)
      have hf := fin (restAt_end s j h1)
      have d4 : ¬ (j : Int) < s.size := by omega
      have d5 : ¬ j < s.size := by omega
      clear fin
      go_wp2_with fail
      refine bodyPost_ret (results_tmp2 rfl _ _ _) rfl ?_
      exact hf.out _ rfl
end Go.Proofs.YtbcofimmfbmkoaaDoor
