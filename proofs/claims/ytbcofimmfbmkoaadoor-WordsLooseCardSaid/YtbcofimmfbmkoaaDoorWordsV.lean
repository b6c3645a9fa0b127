/- The walk of the reference's word, chapter 3. -/
import Derived.Test.YtbcofimmfbmkoaaDoorWordsU
namespace Go.Proofs.YtbcofimmfbmkoaaDoor
open Go.RowKit Go.Shelf Words3

theorem RWPost.yes {key t r : List UInt8} {k n : Nat} {s : ByteArray} {e : Ending} (hn : posOf s r = n) (h : e = .returned (.tuple #[.agg #[.int .i64 (k : Int), .string ⟨key.toArray⟩, .string ⟨t.toArray⟩], .int .i64 (n : Int)])) : RWPost ⟨key, ⟨t, true, r⟩⟩ k s e := ⟨fun _ => by rw [h, hn], fun h => (by cases h)⟩
theorem RWPost.no {key key' t r : List UInt8} {k : Nat} {s : ByteArray} {e : Ending} (h : e = .returned (.tuple #[.agg #[.int .i64 (k : Int), .string ⟨key.toArray⟩, .string ⟨#[]⟩], .int .i64 (-1)])) : RWPost ⟨key', ⟨t, false, r⟩⟩ k s e := ⟨fun h => (by cases h), fun _ => ⟨key, h⟩⟩
/-- What the reference's body hands back, by values. -/
theorem RBPost.form {y : Body} {s : ByteArray} {e : Ending} (h : RBPost y s e) : ∃ (t : List UInt8) (n : Int), e = .returned (.tuple #[.string ⟨t.toArray⟩, .int .i64 n]) ∧ ∀ (key : List UInt8) (k : Nat) (e' : Ending), e' = .returned (.tuple #[.agg #[.int .i64 (k : Int), .string ⟨key.toArray⟩, .string ⟨t.toArray⟩], .int .i64 n]) → RWPost ⟨key, y⟩ k s e' := by
  obtain ⟨t, ok, r⟩ := y
  cases ok with
  | true => exact ⟨t, (posOf s r : Int), h.1 rfl, fun key k e' he => RWPost.yes rfl he⟩
  | false => exact ⟨[], -1, h.2 rfl, fun key k e' he => RWPost.no he⟩

set_option maxHeartbeats 4000000 in
theorem Rword_any (W : World) (k : Nat) (s : ByteArray) (hs : s.size ≤ 100000) (hk : k ≤ s.size) (x : WordR) (hx : wordRef (s.data.toList.drop k) = x) :
    Calls Tryd.prog 49 #[.string s, .int .i64 (k : Int)] W fun e w' => RWPost x k s e ∧ Below W.heap.size W w' := by
  have j2 : (0 : Int) ≤ (k : Int) := by omega
  obtain ⟨a1, a2, a3, a4⟩ := alloc2' W (.cells #[.int .i64 0, .string ⟨#[]⟩, .string ⟨#[]⟩] 46) (.cells #[.int .i64 (k : Int), .string ⟨#[]⟩, .string ⟨#[]⟩] 46)
  have HA := Lib.hid (And.intro a1 (And.intro a2 (And.intro a3 a4)))
  clear a1 a2 a3 a4
  have HX := Lib.hid hx
  clear hx
  go_enter Tryd.func49, Tryd.ntmps49
  go_wp2_with fail
  obtain ⟨bw, hbw⟩ : ∃ bw, bw = W.heap.size + 1 := ⟨_, rfl⟩
  obtain ⟨br, hbr⟩ : ∃ br, br = W.heap.size := ⟨_, rfl⟩
  have W1 := HA.out
  have A4 := HA.out.2.2.2
  rw [← hbw, ← hbr] at W1
  rw [← hbw, ← hbr]
  have n3 : bw ≠ br := by omega
  have n4 : W.heap.size ≤ bw ∧ W.heap.size ≤ br := by omega
  clear hbw hbr HA
  generalize World.alloc (World.alloc W _) _ = W2 at *
  obtain ⟨a1, a2, a3, a4⟩ := W1
  have HA := Lib.hid (And.intro a1 (And.intro a2 (And.intro a3 A4)))
  clear a1 a2 a3 a4 A4
  go_loop [7] (fun o => ∃ j : Nat, o = .int .i64 j ∧ k ≤ j ∧ j ≤ s.size ∧ Hid (∀ i, k ≤ i → i < j → stopB (getz s i) = true)) (fun o => s.size - (intOf o).toNat)
  case atStart => exact ⟨k, rfl, Nat.le_refl _, hk, Lib.hid (fun i h1 h2 => absurd h1 (by omega))⟩
  case round =>
    obtain ⟨j, rfl, hkj, hjs, hall⟩ := hrel
    have d1 : (0 : Int) ≤ (j : Int) := by omega
    -- the end of it: a body follows, with a key or without
    have fin : ∀ (K : List UInt8) (W5 w9 : World) (from_ : Nat) (y : Body) (e : Ending), W5.heap[br]? = some (.cells #[.int .i64 0, .string ⟨#[]⟩, .string ⟨#[]⟩] 46 (0, 0)) → W5.heap[bw]? = some (.cells #[.int .i64 (k : Int), .string ⟨K.toArray⟩, .string ⟨#[]⟩] 46 (0, 0)) →
        Below W.heap.size W W5 → Below W5.heap.size W5 w9 → RBPost y s e → ∃ (t : List UInt8) (n : Int), e = .returned (.tuple #[.string ⟨t.toArray⟩, .int .i64 n]) ∧ w9.frozen? ⟨bw, 2, none⟩ = false ∧ w9.cell? ⟨bw, 2, none⟩ = some (.string ⟨#[]⟩) ∧
          (w9.setCell ⟨bw, 2, none⟩ (.string ⟨t.toArray⟩)).heap[br]? = some (.cells #[.int .i64 0, .string ⟨#[]⟩, .string ⟨#[]⟩] 46 (0, 0)) ∧
          (w9.setCell ⟨bw, 2, none⟩ (.string ⟨t.toArray⟩)).heap[bw]? = some (.cells #[.int .i64 (k : Int), .string ⟨K.toArray⟩, .string ⟨t.toArray⟩] 46 (0, 0)) ∧
          Below W.heap.size W (w9.setCell ⟨bw, 2, none⟩ (.string ⟨t.toArray⟩)) ∧ ∀ e', e' = .returned (.tuple #[.agg #[.int .i64 (k : Int), .string ⟨K.toArray⟩, .string ⟨t.toArray⟩], .int .i64 n]) → RWPost ⟨K, y⟩ k s e' := by
      intro K W5 w9 from_ y e h1 h2 h3 h4 h5
      obtain ⟨t, n, he, hp⟩ := h5.form
      have e1 := heap_below h1 h4
      have e2 := heap_below h2 h4
      obtain ⟨_, _, x2, fz⟩ := cell3 e2
      exact ⟨t, n, he, fz 2, x2, heap_other e1 n3.symm, Lib.heap_setCell_same (i := 2) e2 _, below_set (h3.trans (h4.mono h3.size)) n4.1, fun e' he' => hp K k e' he'⟩
    have FIN := Lib.hid fin
    clear fin
    have hXj := fun (he : j < s.size → stopB (getz s j) = false) => HX.out.symm.trans (wordRef_where s k j hkj hjs hall.out he)
    have HXJ := Lib.hid hXj
    clear hXj HX
    have hcase : (j < s.size ∧ stopB (getz s j) = true) ∨ (j < s.size ∧ getz s j = 61) ∨ ((j < s.size ∧ getz s j = 32) ∨ (j < s.size ∧ getz s j = 34) ∨ j = s.size) := by
      rcases Nat.lt_or_ge j s.size with h1 | h1
      · rw [stopB_nat]
        by_cases h2 : (getz s j).toNat = 32
        · exact .inr (.inr (.inl ⟨h1, UInt8.toNat_inj.1 h2⟩))
        · by_cases h3 : (getz s j).toNat = 61
          · exact .inr (.inl ⟨h1, UInt8.toNat_inj.1 h3⟩)
          · by_cases h4 : (getz s j).toNat = 34
            · exact .inr (.inr (.inr (.inl ⟨h1, UInt8.toNat_inj.1 h4⟩)))
            · exact .inl ⟨h1, decide_eq_true ⟨h2, h3, h4⟩⟩
      · exact .inr (.inr (.inr (.inr (by omega))))
    rcases hcase with ⟨h1, hc⟩ | ⟨h1, hc⟩ | hB
    · have d2 : (j : Int) < s.size := by omega
      have hg : s[j] = getz s j := getz_get s j h1
      have hst := hc
      rw [stopB_nat, decide_eq_true_eq, ← hg] at hst
      obtain ⟨m1, m2, m3⟩ := hst
      have n1 := (bne_nat s[j].toNat 32 (by omega)).1
      have n2 := (bne_nat s[j].toNat 61 (by omega)).1
      have n5 := (bne_nat s[j].toNat 34 (by omega)).1
      have hnx : Hid (∀ i, k ≤ i → i < j + 1 → stopB (getz s i) = true) := Lib.hid (fun i h3 h4 => by
        rcases Nat.lt_or_ge i j with h5 | h5
        · exact hall.out i h3 h5
        · obtain rfl : i = j := by omega
          exact hc)
      clear hg hc hall HXJ FIN HA m1 m2 m3
      go_wp2_with fail
      exact ⟨⟨j + 1, by go_num, by omega, h1, hnx⟩, by simp only [intOf]; omega⟩
    · have d2 : (j : Int) < s.size := by omega
      have hg : s[j] = getz s j := getz_get s j h1
      have n1 : (((s[j].toNat : Nat) : Int) != 32) = true := by rw [hg, hc]; rfl
      have n2 : (((s[j].toNat : Nat) : Int) != 61) = false := by rw [hg, hc]; rfl
      have n5 : (((s[j].toNat : Nat) : Int) == 61) = true := by rw [hg, hc]; rfl
      have hx := HXJ.out (fun _ => by rw [hc]; rfl)
      rw [if_pos ⟨h1, hc⟩] at hx
      have hsub := sub_str s k j hkj hjs
      obtain ⟨K, hK⟩ : ∃ K, K = (s.data.toList.drop k).take (j - k) := ⟨_, rfl⟩
      rw [← hK] at hsub hx
      have hKl : K.length ≤ 100000 := by rw [hK, List.length_take, List.length_drop, bytes_len]; omega
      have HN := Lib.hid (fun W => show Calls Tryd.prog 22 #[.string ⟨K.toArray⟩] W fun e w' => e = .returned (.bool (nameB K)) ∧ W = w' from RName_any ⟨K.toArray⟩ (show K.length ≤ 1000000 by omega) W)
      have HB := Lib.hid (fun W => Rbody_any W (j + 1) s hs h1 (bodyR (s.data.toList.drop (j + 1))) rfl)
      generalize bodyR (s.data.toList.drop (j + 1)) = y at *
      obtain ⟨_, x1, _, fz⟩ := cell3 HA.out.2.1
      have f1 := fz 1
      clear hg hc hall HXJ hK fz
      cases hb : nameB K with
      | true =>
        rw [hb, if_pos rfl] at hx
        rw [hb] at HN
        have HX := Lib.hid hx
        have i1 : IntKind.i64.wrap ((j : Int) + 1) = (j : Int) + 1 := by rw [IntKind.wrap_i64]; omega
        rw [show ((j + 1 : Nat) : Int) = (j : Int) + 1 by omega] at HB
        clear hx hb
        have g1 := Lib.hid (heap_other (j' := 1) (u := .string ⟨K.toArray⟩) HA.out.1 n3.symm)
        have g2 := Lib.hid (show (W2.setCell ⟨bw, 1, none⟩ (.string ⟨K.toArray⟩)).heap[bw]? = some (.cells #[.int .i64 (k : Int), .string ⟨K.toArray⟩, .string ⟨#[]⟩] 46 (0, 0)) from Lib.heap_setCell_same (i := 1) HA.out.2.1 _)
        have g3 := Lib.hid (below_set (j := 1) (u := .string ⟨K.toArray⟩) HA.out.2.2.2 n4.1)
        go_wp2_with (go_at_call 22; refine (HN.out _).mono ?_; rintro e w5 ⟨rfl, rfl⟩)
        refine (HB.out _).mono ?_
        rintro e w9 ⟨he, hb⟩
        obtain ⟨t, n, rfl, f2, x2, hbr, hbw, hbl, hp⟩ := FIN.out K _ w9 (j + 1) y e g1.out g2.out g3.out hb he
        have HBR := Lib.hid hbr
        have HPP := Lib.hid hp
        obtain ⟨y0, y1, y2, _⟩ := cell3 hbw
        obtain ⟨z0, z1, z2, fz⟩ := cell3 hbr
        have q0 := fz 0
        have q1 := fz 1
        have q2 := fz 2
        clear fz hp hbr hbw hb he
        go_wp2_with fail
        obtain ⟨e1, e2, e3⟩ := store3 (x := .int .i64 (k : Int)) (y := .string ⟨K.toArray⟩) (z := .string ⟨t.toArray⟩) HBR.out
        refine bodyPost_ret (results_cell_tmp rfl _ _ br _ _ _ _ rfl e1 Tryd.underlying46 rfl (by kernel_rfl)) rfl ?_
        rw [HX.out]
        exact ⟨HPP.out _ rfl, below_set (below_set (below_set hbl n4.2) n4.2) n4.2⟩
      | false =>
        rw [hb, if_neg (by simp)] at hx
        rw [hb] at HN
        have HX := Lib.hid hx
        clear hx hb HB
        obtain ⟨y0, y1, y2, _⟩ := cell3 HA.out.2.1
        obtain ⟨z0, z1, z2, fz⟩ := cell3 HA.out.1
        have q0 := fz 0
        have q1 := fz 1
        have q2 := fz 2
        clear fz
        go_wp2_with (go_at_call 22; refine (HN.out _).mono ?_; rintro e w5 ⟨rfl, rfl⟩)
        obtain ⟨e1, e2, e3⟩ := store3 (x := .int .i64 (k : Int)) (y := .string ⟨#[]⟩) (z := .string ⟨#[]⟩) HA.out.1
        refine bodyPost_ret (results_cell_tmp rfl _ _ br _ _ _ _ rfl e1 Tryd.underlying46 rfl (by kernel_rfl)) rfl ?_
        rw [HX.out]
        exact ⟨RWPost.no (key := []) rfl, below_set (below_set (below_set HA.out.2.2.2 n4.2) n4.2) n4.2⟩
    · have hst : j < s.size → stopB (getz s j) = false := fun h => by
        rcases hB with ⟨_, hc⟩ | ⟨_, hc⟩ | hc
        · rw [hc]; rfl
        · rw [hc]; rfl
        · omega
      have hno : ¬ (j < s.size ∧ getz s j = 61) := fun ⟨h, h61⟩ => by
        rcases hB with ⟨_, hc⟩ | ⟨_, hc⟩ | hc
        · rw [hc] at h61; revert h61; decide
        · rw [hc] at h61; revert h61; decide
        · omega
      have hx := HXJ.out hst
      rw [if_neg hno] at hx
      have HX := Lib.hid hx
      have HB := Lib.hid (fun W => Rbody_any W k s hs hk (bodyR (s.data.toList.drop k)) rfl)
      generalize bodyR (s.data.toList.drop k) = y at *
      have FIN2 := Lib.hid (fun w9 e (hb : Below W2.heap.size W2 w9) he => FIN.out [] W2 w9 k y e HA.out.1 HA.out.2.1 HA.out.2.2.2 hb he)
      clear hx hst hno hall HXJ FIN HA
      rcases hB with ⟨h1, hc⟩ | ⟨h1, hc⟩ | rfl
      all_goals
        first
        | (have d2 : (j : Int) < s.size := by omega
           have hg : s[j] = getz s j := getz_get s j h1
           have n1 : (((s[j].toNat : Nat) : Int) != 32) = false := by rw [hg, hc]; rfl
           have n5 : (((s[j].toNat : Nat) : Int) == 61) = false := by rw [hg, hc]; rfl
           clear hg hc)
        | (have d2 : (j : Int) < s.size := by omega
           have hg : s[j] = getz s j := getz_get s j h1
           have n1 : (((s[j].toNat : Nat) : Int) != 32) = true := by rw [hg, hc]; rfl
           have n2 : (((s[j].toNat : Nat) : Int) != 61) = true := by rw [hg, hc]; rfl
           have n6 : (((s[j].toNat : Nat) : Int) != 34) = false := by rw [hg, hc]; rfl
           have n5 : (((s[j].toNat : Nat) : Int) == 61) = false := by rw [hg, hc]; rfl
           clear hg hc)
        | (have d2 := lt_f (a := (s.size : Int)) (b := s.size) (by omega))
      all_goals
        go_wp2_with fail
        refine (HB.out _).mono ?_
        rintro e w9 ⟨he, hb⟩
        obtain ⟨t, n, rfl, f2, x2, hbr, hbw, hbl, hp⟩ := FIN2.out w9 e hb he
        have HBR := Lib.hid hbr
        have HPP := Lib.hid hp
        obtain ⟨y0, y1, y2, _⟩ := cell3 hbw
        obtain ⟨z0, z1, z2, fz⟩ := cell3 hbr
        have q0 := fz 0
        have q1 := fz 1
        have q2 := fz 2
        clear fz hp hbr hbw hb he FIN2 HB
        go_wp2_with fail
        obtain ⟨e1, e2, e3⟩ := store3 (x := .int .i64 (k : Int)) (y := .string ⟨#[]⟩) (z := .string ⟨t.toArray⟩) HBR.out
        refine bodyPost_ret (results_cell_tmp rfl _ _ br _ _ _ _ rfl e1 Tryd.underlying46 rfl (by kernel_rfl)) rfl ?_
        rw [HX.out]
        exact ⟨HPP.out _ rfl, below_set (below_set (below_set hbl n4.2) n4.2) n4.2⟩
end Go.Proofs.YtbcofimmfbmkoaaDoor
