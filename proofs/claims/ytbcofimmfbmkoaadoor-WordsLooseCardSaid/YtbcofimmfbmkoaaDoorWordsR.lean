/- The walk of the reference's piece, chapter 3. -/
import Derived.Test.YtbcofimmfbmkoaaDoorWordsI
import Derived.Test.YtbcofimmfbmkoaaDoorWordsE
import Derived.Test.YtbcofimmfbmkoaaDoorWordsRef
namespace Go.Proofs.YtbcofimmfbmkoaaDoor
open Go.RowKit Go.Shelf Words3

set_option maxHeartbeats 4000000 in
theorem Rpiece_hex (W : World) (k : Nat) (s : ByteArray) (hs : s.size ≤ 1000000) (hl3 : k + 3 < s.size) (h92 : ((s[k].toNat : Nat) : Int) = 92) (m4 : ((s[k + 1].toNat : Nat) : Int) = 120) (p1 : 0 ≤ hexI s[k + 2]) (p2 : 0 ≤ hexI s[k + 3]) :
    Calls Tryd.prog 53 #[.string s, .int .i64 (k : Int)] W fun e w' => e = .returned (.tuple #[.int .u8 ((UInt8.ofNat (16 * (hexI s[k + 2]).toNat + (hexI s[k + 3]).toNat)).toNat : Int), .int .i64 4]) ∧ ∃ m, w' = W.drewN m := by
  obtain ⟨_, a2, _, _, _⟩ := hexI_range s[k + 2]
  obtain ⟨_, b2, _, _, _⟩ := hexI_range s[k + 3]
  have HX := Lib.hid (fun c W => hex_any c W)
  have hw1 : IntKind.u8.wrap (16 * hexI s[k + 2] + hexI s[k + 3]) = 16 * hexI s[k + 2] + hexI s[k + 3] := by rw [IntKind.wrap_u8']; omega
  have hw2 : (((UInt8.ofNat (16 * (hexI s[k + 2]).toNat + (hexI s[k + 3]).toNat)).toNat : Nat) : Int) = 16 * hexI s[k + 2] + hexI s[k + 3] := by rw [UInt8.toNat_ofNat']; omega
  have hw2 := Lib.hid hw2
  have d1 := le_t p1
  have d2 := le_t p2
  have j2 : (0 : Int) ≤ (k : Int) := by omega
  have j3 : (k : Int) < s.size := by omega
  have j4 : ¬ s.size ≤ k := by omega
  have j5 : (k : Int) + 1 < s.size := by omega
  have j6 : (0 : Int) ≤ (k : Int) + 1 := by omega
  have j7 : ((k : Int) + 1).toNat = k + 1 := by omega
  have j8 : (k : Int) + 3 < s.size := by omega
  have j9 : (k : Int) + 2 < s.size := by omega
  have j10 : ((k : Int) + 2).toNat = k + 2 := by omega
  have j11 : ((k : Int) + 3).toNat = k + 3 := by omega
  have j12 : (0 : Int) ≤ (k : Int) + 2 := by omega
  have j13 : (0 : Int) ≤ (k : Int) + 3 := by omega
  have i1 : IntKind.i64.wrap ((k : Int) + 1) = (k : Int) + 1 := by rw [IntKind.wrap_i64]; omega
  have i2 : IntKind.i64.wrap ((k : Int) + 2) = (k : Int) + 2 := by rw [IntKind.wrap_i64]; omega
  have i3 : IntKind.i64.wrap ((k : Int) + 3) = (k : Int) + 3 := by rw [IntKind.wrap_i64]; omega
  go_enter Tryd.func53, Tryd.ntmps53
  go_wp2_with (go_at_call 63; refine (HX.out _ _).mono ?_; rintro e w' ⟨rfl, rfl⟩)
  go_quiet ((go_at_call 63; exact quiet_left (HX.out _ _)))
  go_wp2_with fail
  refine bodyPost_ret (results_tmp2 rfl _ _ _) rfl ?_
  exact ⟨by rw [hw2.out]; rfl, _, rfl⟩
set_option maxHeartbeats 4000000 in
theorem Rpiece_any (W : World) (k : Nat) (s : ByteArray) (hs : s.size ≤ 1000000) (hk : k ≤ s.size) (q : UInt8 × Nat) (hq : pieceL (s.data.toList.drop k) = q) :
    Calls Tryd.prog 53 #[.string s, .int .i64 (k : Int)] W fun e w' => e = .returned (.tuple #[.int .u8 (q.1.toNat : Int), .int .i64 (q.2 : Int)]) ∧ ∃ m, w' = W.drewN m := by
  have j2 : (0 : Int) ≤ (k : Int) := by omega
  rcases Nat.lt_or_ge k s.size with hlt | hge
  · have j3 : (k : Int) < s.size := by omega
    have j4 : ¬ s.size ≤ k := by omega
    rw [drop_getz s k hlt] at hq
    have hg : s[k] = getz s k := getz_get s k hlt
    have HG := Lib.hid hg
    by_cases h1 : getz s k < 32 ∨ 126 < getz s k ∨ getz s k = 34
    · have hq' : q = (0, 0) := by rw [← hq]; exact if_pos h1
      subst hq'
      rcases h1 with h1 | h1 | h1
      · have h2 : ((s[k].toNat : Nat) : Int) < 32 := by rw [hg]; have := UInt8.lt_iff_toNat_lt.1 h1; simp at this; omega
        clear hg
        go_enter Tryd.func53, Tryd.ntmps53
        go_wp2_with fail
        refine bodyPost_ret (results_tmp2 rfl _ _ _) rfl ?_
        exact ⟨rfl, 0, rfl⟩
      · have h2 : (126 : Int) < ((s[k].toNat : Nat) : Int) := by rw [hg]; have := UInt8.lt_iff_toNat_lt.1 h1; simp at this; omega
        have h3 : ¬ ((s[k].toNat : Nat) : Int) < 32 := by omega
        clear hg
        go_enter Tryd.func53, Tryd.ntmps53
        go_wp2_with fail
        refine bodyPost_ret (results_tmp2 rfl _ _ _) rfl ?_
        exact ⟨rfl, 0, rfl⟩
      · have h2 : ((s[k].toNat : Nat) : Int) = 34 := by rw [hg, h1]; rfl
        clear hg
        go_enter Tryd.func53, Tryd.ntmps53
        go_wp2_with fail
        refine bodyPost_ret (results_tmp2 rfl _ _ _) rfl ?_
        exact ⟨rfl, 0, rfl⟩
    · have n1 : ¬ ((s[k].toNat : Nat) : Int) < 32 := by rw [hg]; intro h; exact h1 (.inl (UInt8.lt_iff_toNat_lt.2 (by simp; omega)))
      have n2 : ¬ (126 : Int) < ((s[k].toNat : Nat) : Int) := by rw [hg]; intro h; exact h1 (.inr (.inl (UInt8.lt_iff_toNat_lt.2 (by simp; omega))))
      have n3 : (((s[k].toNat : Nat) : Int) == 34) = false := by
        rw [beq_eq_false_iff_ne, hg]; intro h; exact h1 (.inr (.inr (UInt8.toNat_inj.1 (by show _ = 34; omega))))
      by_cases h92 : getz s k = 92
      · have n4 : (((s[k].toNat : Nat) : Int) != 92) = false := by rw [hg, h92]; rfl
        have hq2 : (if (escL (s.data.toList.drop (k + 1))).2 = 0 then ((0 : UInt8), 0) else ((escL (s.data.toList.drop (k + 1))).1, (escL (s.data.toList.drop (k + 1))).2 + 1)) = q := by
          rw [← hq]; exact ((if_neg h1).trans (if_neg (by simp [h92]))).symm
        clear hq
        have i1 : IntKind.i64.wrap ((k : Int) + 1) = (k : Int) + 1 := by rw [IntKind.wrap_i64]; omega
        rcases Nat.lt_or_ge (k + 1) s.size with hl1 | hg1
        · have j5 : (k : Int) + 1 < s.size := by omega
          have j6 : (0 : Int) ≤ (k : Int) + 1 := by omega
          have j7 : ((k : Int) + 1).toNat = k + 1 := by omega
          have hd := drop_getz s (k + 1) hl1
          have hd1 : s[k + 1] = getz s (k + 1) := getz_get s (k + 1) hl1
          rw [hd] at hq2
          by_cases e1 : getz s (k + 1) = 34 ∨ getz s (k + 1) = 92
          · have hq' : q = (getz s (k + 1), 2) := by rw [← hq2]; simp [escL, e1]
            rw [← hd1] at hq' e1
            subst hq'
            clear hq2
            rcases e1 with e1 | e1
            · have e2 : ((s[k + 1].toNat : Nat) : Int) = 34 := by rw [e1]; rfl
              clear hg hd hd1
              go_enter Tryd.func53, Tryd.ntmps53
              go_wp2_with fail
              refine bodyPost_ret (results_tmp2 rfl _ _ _) rfl ?_
              exact ⟨rfl, 0, rfl⟩
            · have e2 : ((s[k + 1].toNat : Nat) : Int) = 92 := by rw [e1]; rfl
              clear hg hd hd1
              go_enter Tryd.func53, Tryd.ntmps53
              go_wp2_with fail
              refine bodyPost_ret (results_tmp2 rfl _ _ _) rfl ?_
              exact ⟨rfl, 0, rfl⟩
          · rw [not_or] at e1
            have m1 : (((s[k + 1].toNat : Nat) : Int) == 34) = false := by
              rw [beq_eq_false_iff_ne, hd1]; intro h; exact e1.1 (UInt8.toNat_inj.1 (by show _ = 34; omega))
            have m2 : (((s[k + 1].toNat : Nat) : Int) == 92) = false := by
              rw [beq_eq_false_iff_ne, hd1]; intro h; exact e1.2 (UInt8.toNat_inj.1 (by show _ = 92; omega))
            by_cases e3 : getz s (k + 1) = 110
            · have hq' : q = (10, 2) := by rw [← hq2]; simp [escL, e3]
              have m3 : ((s[k + 1].toNat : Nat) : Int) = 110 := by rw [hd1, e3]; rfl
              subst hq'
              clear hq2
              clear hg hd hd1
              go_enter Tryd.func53, Tryd.ntmps53
              go_wp2_with fail
              refine bodyPost_ret (results_tmp2 rfl _ _ _) rfl ?_
              exact ⟨rfl, 0, rfl⟩
            · have m3 : (((s[k + 1].toNat : Nat) : Int) == 110) = false := by
                rw [beq_eq_false_iff_ne, hd1]; intro h; exact e3 (UInt8.toNat_inj.1 (by show _ = 110; omega))
              by_cases e4 : getz s (k + 1) = 120
              · have m4 : ((s[k + 1].toNat : Nat) : Int) = 120 := by rw [hd1, e4]; rfl
                have hz : escZ s (k + 1) = if 0 ≤ hexI (getz s (k + 2)) ∧ 0 ≤ hexI (getz s (k + 3)) then (UInt8.ofNat (16 * (hexI (getz s (k + 2))).toNat + (hexI (getz s (k + 3))).toNat), 3) else (0, 0) := by
                  unfold escZ
                  simp [e4]
                rw [← hd, escL_z, hz] at hq2
                have i3 : IntKind.i64.wrap ((k : Int) + 3) = (k : Int) + 3 := by rw [IntKind.wrap_i64]; omega
                rcases Nat.lt_or_ge (k + 3) s.size with hl3 | hg3
                · have j8 : (k : Int) + 3 < s.size := by omega
                  have j9 : (k : Int) + 2 < s.size := by omega
                  have j10 : ((k : Int) + 2).toNat = k + 2 := by omega
                  have j11 : ((k : Int) + 3).toNat = k + 3 := by omega
                  have j12 : (0 : Int) ≤ (k : Int) + 2 := by omega
                  have j13 : (0 : Int) ≤ (k : Int) + 3 := by omega
                  have i2 : IntKind.i64.wrap ((k : Int) + 2) = (k : Int) + 2 := by rw [IntKind.wrap_i64]; omega
                  have hd2 : s[k + 2] = getz s (k + 2) := getz_get s (k + 2) (by omega)
                  have hd3 : s[k + 3] = getz s (k + 3) := getz_get s (k + 3) hl3
                  rw [← hd2, ← hd3] at hq2
                  by_cases p1 : 0 ≤ hexI s[k + 2]
                  · by_cases p2 : 0 ≤ hexI s[k + 3]
                    · rw [if_pos (show 0 ≤ hexI s[k + 2] ∧ 0 ≤ hexI s[k + 3] from ⟨p1, p2⟩)] at hq2
                      have hq' : q = (UInt8.ofNat (16 * (hexI s[k + 2]).toNat + (hexI s[k + 3]).toNat), 4) := by rw [← hq2]; rfl
                      subst hq'
                      exact Rpiece_hex W k s hs hl3 (by rw [hg, h92]; rfl) m4 p1 p2
                    · have hno : ¬ (0 ≤ hexI s[k + 2] ∧ 0 ≤ hexI s[k + 3]) := fun h => p2 h.2
                      rw [if_neg hno] at hq2
                      have hq' : q = (0, 0) := by rw [← hq2]; rfl
                      subst hq'
                      clear hq2 hz
                      clear hg hd hd1 hd2 hd3
                      go_enter Tryd.func53, Tryd.ntmps53
                      go_wp2_with (go_at_call 63; refine (hex_any _ _).mono ?_; rintro e w' ⟨rfl, rfl⟩)
                      refine bodyPost_ret (results_tmp2 rfl _ _ _) rfl ?_
                      exact ⟨rfl, 0, rfl⟩
                  · have hno : ¬ (0 ≤ hexI s[k + 2] ∧ 0 ≤ hexI s[k + 3]) := fun h => p1 h.1
                    rw [if_neg hno] at hq2
                    have hq' : q = (0, 0) := by rw [← hq2]; rfl
                    subst hq'
                    clear hq2 hz
                    clear hg hd hd1 hd2 hd3
                    go_enter Tryd.func53, Tryd.ntmps53
                    go_wp2_with (go_at_call 63; refine (hex_any _ _).mono ?_; rintro e w' ⟨rfl, rfl⟩)
                    refine bodyPost_ret (results_tmp2 rfl _ _ _) rfl ?_
                    exact ⟨rfl, 0, rfl⟩
                · have j8 : ¬ (k : Int) + 3 < s.size := by omega
                  have hg0 : getz s (k + 3) = 0 := by unfold getz; rw [dif_neg (by omega)]
                  have hno : ¬ (0 ≤ hexI (getz s (k + 2)) ∧ 0 ≤ hexI (getz s (k + 3))) := by rw [hg0]; rintro ⟨_, h⟩; exact absurd h (by decide +kernel)
                  rw [if_neg hno] at hq2
                  have hq' : q = (0, 0) := by rw [← hq2]; rfl
                  subst hq'
                  clear hq2 hz
                  clear hg hd hd1
                  go_enter Tryd.func53, Tryd.ntmps53
                  go_wp2_with fail
                  refine bodyPost_ret (results_tmp2 rfl _ _ _) rfl ?_
                  exact ⟨rfl, 0, rfl⟩
              · have m4 : (((s[k + 1].toNat : Nat) : Int) == 120) = false := by
                  rw [beq_eq_false_iff_ne, hd1]; intro h; exact e4 (UInt8.toNat_inj.1 (by show _ = 120; omega))
                have hq' : q = (0, 0) := by rw [← hq2]; simp [escL, e1, e3, e4]
                subst hq'
                clear hq2
                clear hg hd hd1
                go_enter Tryd.func53, Tryd.ntmps53
                go_wp2_with fail
                refine bodyPost_ret (results_tmp2 rfl _ _ _) rfl ?_
                exact ⟨rfl, 0, rfl⟩
        · have j5 : ¬ (k : Int) + 1 < s.size := by omega
          have hd : s.data.toList.drop (k + 1) = [] := List.drop_eq_nil_of_le (by rw [bytes_len]; exact hg1)
          rw [hd] at hq2
          have hq' : q = (0, 0) := by rw [← hq2]; rfl
          subst hq'
          clear hq2
          clear hg hd
          go_enter Tryd.func53, Tryd.ntmps53
          go_wp2_with fail
          refine bodyPost_ret (results_tmp2 rfl _ _ _) rfl ?_
          exact ⟨rfl, 0, rfl⟩
      · have hq' : q = (getz s k, 1) := by rw [← hq]; exact (if_neg h1).trans (if_pos h92)
        have n4 : (((s[k].toNat : Nat) : Int) != 92) = true := by
          rw [bne_iff_ne, hg]; intro h; exact h92 (UInt8.toNat_inj.1 (by show _ = 92; omega))
        rw [← hg] at hq'
        subst hq'
        clear hg
        go_enter Tryd.func53, Tryd.ntmps53
        go_wp2_with fail
        refine bodyPost_ret (results_tmp2 rfl _ _ _) rfl ?_
        exact ⟨rfl, 0, rfl⟩
  · have hks : k = s.size := by omega
    subst hks
    have hd : s.data.toList.drop s.size = [] := List.drop_eq_nil_of_le (by rw [bytes_len]; exact Nat.le_refl _)
    have hq' : q = (0, 0) := by rw [← hq, hd]; rfl
    subst hq'
    have j4 : s.size ≤ s.size := Nat.le_refl _
    go_enter Tryd.func53, Tryd.ntmps53
    go_wp2_with fail
    refine bodyPost_ret (results_tmp2 rfl _ _ _) rfl ?_
    exact ⟨rfl, 0, rfl⟩
end Go.Proofs.YtbcofimmfbmkoaaDoor
