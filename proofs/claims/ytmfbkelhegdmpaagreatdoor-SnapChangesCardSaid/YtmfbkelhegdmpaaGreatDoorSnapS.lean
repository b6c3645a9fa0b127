/- The walk of the reference's Compact, chapter 13 (snap). -/
import Derived.Test.YtmfbkelhegdmpaaGreatDoorSnapR
import Derived.Test.YtmfbkelhegdmpaaGreatDoorSnapEnds
import Derived.Test.YtmfbkelhegdmpaaGreatDoorJournalQ
namespace Go.Proofs.YtmfbkelhegdmpaaGreatDoor
open Go.RowKit Disk11 Journal12 Sum2

set_option maxHeartbeats 8000000 in
set_option maxRecDepth 100000 in
theorem RCompact_any13 (d : Dev) (v : Value) (g : Nat) (p : Int) (x : List UInt8) (w : World) (hg64 : g < 18446744073709551616) (hx : x.length ≤ 900000) (h : DiskIs w d v) :
    Calls Tryz.prog 24 #[v, logV g p, .string ⟨x.toArray⟩] w (SnapPost w (compactS d (g, p) x)) := by
  have HO := Lib.hid (fun W h => Rcheck_any13 d v g p W h)
  obtain ⟨C, hC⟩ : ∃ C, C = checkS d (g, p) := ⟨_, rfl⟩
  rw [← hC] at HO
  have hC' := Lib.hid hC
  obtain ⟨R, hR⟩ : ∃ R, R = compactS d (g, p) x := ⟨_, rfl⟩
  rw [← hR]
  have hR' := Lib.hid hR
  have z2 : (⟨x.toArray⟩ : ByteArray).size = x.length := rfl
  clear hC hR
  obtain ⟨ab, cb, ac, cc, rfl, _, _, _, _⟩ := h.form
  obtain ⟨WA, hWA⟩ : ∃ WA, (w.alloc (.cells #[.slice ab d.1.length cb, .slice ac d.2.length cc] 29)).alloc (.cells #[.int .u64 (g : Int), .int .i64 p] 32) = WA := ⟨_, rfl⟩
  obtain ⟨k0, k1, hsA, eA⟩ := alloc2 w (.cells #[.slice ab d.1.length cb, .slice ac d.2.length cc] 29) (.cells #[.int .u64 (g : Int), .int .i64 p] 32)
  rw [hWA] at k0 k1 hsA eA
  obtain ⟨k2, k3, _, eB⟩ := alloc2 WA (.cells #[.slice none 0 0, .slice none 0 0] 29) (.cells #[.int .u64 0, .int .i64 0] 32)
  rw [hsA] at k2 k3
  have hB := Lib.hid (eA.trans (eB.mono eA.size))
  have k0' := heap_below k0 eB
  have k1' := heap_below k1 eB
  have h0 := Lib.hid h
  clear h k0 k1 eA eB
  go_enter Tryz.func24, Tryz.ntmps24
  go_upto_region 1 with (fail)
  generalize hW1 : (WA.alloc (.cells #[.slice none 0 0, .slice none 0 0] 29)).alloc (.cells #[.int .u64 0, .int .i64 0] 32) = W1 at *
  clear hW1 hWA hsA
  have c0 := cell2_0 k0'
  have c1 := cell2_1 k0'
  have l0 := cell2_0 k1'
  have l1 := cell2_1 k1'
  go_wp2_with fail
  refine (HO.out _ (h0.out.below hB.out)).mono ?_
  rintro e w2 ⟨rfl, b2⟩
  have B2 := hB.out.trans (b2.mono hB.out.size)
  have k0 := heap_below k0' b2
  have k1 := heap_below k1' b2
  have K2 := heap_below k2 b2
  have K3 := heap_below k3 b2
  clear c0 c1 l0 l1 hB k0' k1' k2 k3 b2 HO
  have hB := Lib.hid B2
  have lw : w.heap.size + 2 + 1 < w2.heap.size := (Array.getElem?_eq_some_iff.1 K3).1
  have z3 := cell2_0 K2
  have z4 := cell2_1 K2
  have z5 := cell2_0 K3
  have z6 := cell2_1 K3
  have f0 := frozen2 K2 0
  have f1 := frozen2 K2 1
  have f2 := frozen2 K3 0
  have f3 := frozen2 K3 1
  by_cases hc : C = 0
  · have hc0 := hC'.out.symm.trans hc
    obtain ⟨hgd, h8, hg1, hg2, _, _⟩ := check_ok hc0
    have h4 := hgd.2.1
    have hc0' := Lib.hid hc0
    rw [hc]
    have hk0 : ((0 : Nat) : Int) = 0 := rfl
    rw [hk0]
    clear hc hc0 B2 hk0
    have c0 := cell2_0 k0
    have c1 := cell2_1 k0
    have l0 := cell2_0 k1
    have l1 := cell2_1 k1
    by_cases hg : g = 1099511627776
    · have t1 : ((g : Int) == 1099511627776) = true := by rw [hg]; rfl
      have t2 : (g == 1099511627776) = true := by rw [hg]; rfl
      have hr2 := Lib.hid (hR'.out.trans (compact_f1 hc0'.out hg))
      clear hg hg1 hg2 hg64
      go_wp2
      exact ret4_none rfl rfl rfl rfl rfl K2 K3 (by omega) (by simp) (by simp) hB.out (by omega) (by omega) hr2.out
    · have t1 : ((g : Int) == 1099511627776) = false := by rw [beq_eq_false_iff_ne]; omega
      have t2 : (g == 1099511627776) = false := by rw [beq_eq_false_iff_ne]; omega
      have hg' := Lib.hid hg
      obtain ⟨cp, hcp⟩ : ∃ cp, cp = slotN d.1.length - 17 := ⟨_, rfl⟩
      have hcp2 : cp ≤ 65536 := by rw [hcp]; unfold slotN; omega
      have hcap := cap_ok h8 h4
      rw [← hcp] at hcap
      have hcap2 : capS (d.1.length : Int) = ((cp : Int), 0) := by
        rw [← hcap]; unfold capS; rw [if_neg (by omega)]
      have HC := Lib.hid (fun W => RCapacity_any (d.1.length : Int) (by unfold I64; omega) W)
      rw [hcap2] at HC
      have hcap' := Lib.hid hcap
      obtain ⟨G, hGg⟩ : ∃ G, G = g + 1 := ⟨_, rfl⟩
      have hw : IntKind.u64.wrap ((g : Int) + 1) = (G : Int) := by
        rw [hGg]; simp [IntKind.wrap, IntKind.bits]; omega
      have hG1 := Lib.hid hGg
      have hG2 : G ≤ 1099511627776 := by omega
      clear hg hGg hcp hcap hcap2
      go_wp2_with fail
      refine (HC.out _).mono ?_
      rintro e w3 ⟨rfl, rfl⟩
      by_cases hlen : cp < x.length
      · have t3 : decide ((cp : Int) < (x.length : Int)) = true := by simp; omega
        have t4 : decide (cp < x.length) = true := by simp; omega
        have hr2 := Lib.hid (hR'.out.trans (compact_f2 hc0'.out hg'.out (by rw [hcap'.out]; exact Int.ofNat_lt.2 hlen)))
        go_wp2
        exact ret4_none rfl rfl rfl rfl rfl K2 K3 (by omega) (by simp) (by simp) hB.out (by omega) (by omega) hr2.out
      · have t3 : decide ((cp : Int) < (x.length : Int)) = false := by simp; omega
        have t4 : decide (cp < x.length) = false := by simp; omega
        have hl2 := Lib.hid (show ¬ (capS d.1.length).1 < (x.length : Int) by rw [hcap'.out]; omega)
        obtain ⟨q, hq⟩ : ∃ q, q = d.1.length / 4 := ⟨_, rfl⟩
        have hq4 : q ≤ 1024 := by omega
        have HS := Lib.hid (fun W => Rslot_any d.1.length h4 W)
        rw [← hq] at HS
        obtain ⟨r, hr⟩ : ∃ r, r = G % 2 := ⟨_, rfl⟩
        have hr1 : r = 0 ∨ r = 1 := by omega
        have ht : Int.tmod (G : Int) 2 = (r : Int) := by rw [Int.tmod_eq_emod_of_nonneg (by omega)]; omega
        have ht2 : (G : Int) % 2 = (r : Int) := by omega
        obtain ⟨s, hs⟩ : ∃ s, s = placeS d.1.length G := ⟨_, rfl⟩
        have hp : (s : Int) = 64 * (q : Int) * (r : Int) := by rw [hs]; unfold placeS slotN; rw [← hq, ← hr]; push_cast; rfl
        have hsl : s ≤ 65536 := by rcases hr1 with e | e <;> rw [e] at hp <;> omega
        have hs' := Lib.hid hs
        have hw6 : IntKind.i64.wrap (64 * (q : Int)) = 64 * (q : Int) := by rw [IntKind.wrap_i64]; omega
        clear hq hr hs hlen
        go_upto_region 10 with (fail)
        go_cut [13] from 44 to 52 (fun u W => u = .int .i64 (s : Int) ∧ W = w3)
        case first =>
          have HP := Lib.hid hp
          clear hp hR' hC' h0 hB hg' hc0' hcap' hG1 hl2
          rcases hr1 with rfl | rfl
          · go_wp2_with fail
            refine (HS.out _).mono ?_
            rintro e w4 ⟨rfl, rfl⟩
            go_wp2_with fail
            go_meet
            exact ⟨by rw [HP.out]; simp, rfl⟩
          · go_wp2_with fail
            refine (HS.out _).mono ?_
            rintro e w4 ⟨rfl, rfl⟩
            go_wp2_with fail
            go_meet
            exact ⟨by rw [HP.out]; simp, rfl⟩
        case rest =>
          obtain ⟨rfl, rfl⟩ := hcut
          clear hp ht ht2 hr1 HS hw6 t1 t2 t3 t4
          obtain ⟨r1, h1⟩ : ∃ r, r = writeD d (s : Int) [0] := ⟨_, rfl⟩
          have HW1 := Lib.hid (fun v W h => RWrite_any d v (s : Int) [0] W h)
          rw [← h1] at HW1
          have e1 := Lib.hid (show r1 = comp1 d (g + 1) by rw [h1, hs'.out, hG1.out]; rfl)
          clear h1
          go_wp2_with fail
          refine (HW1.out _ _ (h0.out.below hB.out)).mono ?_
          rintro e w6 ⟨v', rfl, D6, b6⟩
          obtain ⟨a6, m6, c6, n6, rfl, _⟩ := D6.form
          have lw6 := b6.size
          have al := Go.Joins.below_alloc1 w6 (.cells #[.slice a6 r1.1.1.length m6, .slice c6 r1.1.2.length n6] 29)
          have Q0 := World.alloc_heap_new w6 (.cells #[.slice a6 r1.1.1.length m6, .slice c6 r1.1.2.length n6] 29)
          have Q1 := heap_below (heap_below K2 b6) al
          have Q2 := heap_below (heap_below K3 b6) al
          have Q3 := heap_below (heap_below k0 b6) al
          have Q4 := D6.below al
          have B6 := hB.out.trans (b6.mono hB.out.size)
          have Q5 := B6.trans (al.mono B6.size)
          clear c0 c1 l0 l1 D6 b6 al B6 K2 K3 k0 k1
          go_upto_region 12 with (fail)
          generalize (w6.alloc (.cells #[.slice a6 r1.1.1.length m6, .slice c6 r1.1.2.length n6] 29)) = W6 at *
          rcases Nat.eq_zero_or_pos r1.2 with hz | hz
          case inr =>
            have hzn : r1.2 ≠ 0 := by omega
            have hr2 := Lib.hid (hR'.out.trans (compact_f3 hc0'.out hg'.out (Int.not_lt.2 hl2.out) e1.out hzn))
            obtain ⟨k, hk⟩ : ∃ k, k = r1.2 := ⟨_, rfl⟩
            rw [← hk] at hz hzn hr2 ⊢
            have hz1 : ((k : Int) != 0) = true := by simp; omega
            have z3 := cell2_0 Q1
            have z4 := cell2_1 Q1
            have z5 := cell2_0 Q2
            have z6 := cell2_1 Q2
            have f0 := frozen2 Q1 0
            have f1 := frozen2 Q1 1
            have f2 := frozen2 Q2 0
            have f3 := frozen2 Q2 1
            clear hk hz hzn
            go_wp2
            exact ret4_none rfl rfl rfl rfl rfl Q1 Q2 (by omega) (by simp) (by simp) Q5 (by omega) (by omega) hr2.out
          have e1z := Lib.hid hz
          rw [hz]
          have hk0 : ((0 : Nat) : Int) = 0 := rfl
          rw [hk0]
          clear hz hk0
          -- the second write, in a region that draws its order
          have d0 := cell2_0 Q0
          have d1 := cell2_1 Q0
          have hw2 : IntKind.i64.wrap ((s : Int) + 1) = (s : Int) + 1 := by rw [IntKind.wrap_i64]; omega
          have HFo := Lib.hid (fun W => Rform_any13 G x (by omega) (by omega) W)
          obtain ⟨F, hF⟩ : ∃ F, F = formS G x := ⟨_, rfl⟩
          rw [← hF] at HFo
          obtain ⟨r2, h2⟩ : ∃ r, r = writeD r1.1 ((s : Int) + 1) F := ⟨_, rfl⟩
          have HW2 := Lib.hid (fun v W h => RWrite_any r1.1 v ((s : Int) + 1) F W h)
          rw [← h2] at HW2
          have e2 := Lib.hid (show r2 = comp2 r1.1 d.1.length (g + 1) x by rw [h2, hF, hs'.out, hG1.out]; rfl)
          clear h2 hF
          go_upto_region 14 with (fail)
          go_cut [9] from 64 to 73 (fun u W => u = .int .i64 (r2.2 : Int) ∧ ∃ (a8 : Option Addr) (m8 : Nat) (c8 : Option Addr) (n8 : Nat), W.heap[w6.heap.size]? = some (.cells #[.slice a8 r2.1.1.length m8, .slice c8 r2.1.2.length n8] 29 (0, 0)) ∧ W.heap[w.heap.size + 2]? = some (.cells #[.slice none 0 0, .slice none 0 0] 29 (0, 0)) ∧ W.heap[w.heap.size + 2 + 1]? = some (.cells #[.int .u64 0, .int .i64 0] 32 (0, 0)) ∧ W.heap[w.heap.size]? = some (.cells #[.slice ab d.1.length cb, .slice ac d.2.length cc] 29 (0, 0)) ∧ DiskIs W r2.1 (.agg #[.slice a8 r2.1.1.length m8, .slice c8 r2.1.2.length n8]) ∧ Below w.heap.size w W)
          case first =>
            have S0 := Lib.hid (show W6.drew.heap[w6.heap.size]? = _ from Q0)
            have S1 := Lib.hid (And.intro (show W6.drew.heap[w.heap.size + 2]? = _ from Q1) (And.intro (show W6.drew.heap[w.heap.size + 2 + 1]? = _ from Q2) (show W6.drew.heap[w.heap.size]? = _ from Q3)))
            have DD := Lib.hid Q4.drew
            have U := Lib.hid Q5.drew
            clear Q0 Q1 Q2 Q3 Q4 Q5
            have d0 := cell2_0 S0.out
            have d1 := cell2_1 S0.out
            refine wp_region_any (by kernel_rfl) ?_
            refine wpAny_take (i := 1) (v := ?_) rfl (by kernel_rfl) (by kernel_rfl) (by kernel_rfl) (fun _ _ _ h => h) (Or.inl ⟨by rfl, ?_⟩) ?_
            rotate_left
            · intro Wt; go_simp; with_reducible rfl
            refine wpAny_take (i := 2) (v := ?_) rfl (by kernel_rfl) (by kernel_rfl) (by kernel_rfl) (fun _ _ _ h => h) (Or.inl ⟨by rfl, ?_⟩) ?_
            rotate_left
            · intro Wt; go_simp; with_reducible rfl
            refine wpAny_take (i := 3) (v := ?_) rfl (by kernel_rfl) (by kernel_rfl) (by kernel_rfl) (fun _ _ _ h => h) (Or.inl ⟨by rfl, ?_⟩) ?_
            rotate_left
            · intro Wt; go_simp; with_reducible rfl
            refine wpAny_take (i := 4) (v := ?_) rfl (by kernel_rfl) (by kernel_rfl) (by kernel_rfl) (fun _ _ _ h => h) (Or.inl ⟨by rfl, ?_⟩) ?_
            rotate_left
            · intro Wt; go_simp; with_reducible rfl
            refine wpAny_ready (rs := [0, 5]) (by kernel_rfl) (by simp) ?_
            refine AllReady.cons rfl (fun K hK => ?_) (AllReady.cons rfl (fun K hK => ?_) AllReady.nil)
            · go_simp
              refine hK _ _ ?_
              clear hK K
              refine wpAny_ready (rs := [5]) (by kernel_rfl) (by simp) ?_
              refine AllReady.cons rfl (fun K hK => ?_) AllReady.nil
              go_simp
              refine (HFo.out _).mono ?_
              rintro e u ⟨rfl, y⟩
              have S1 := Lib.hid (And.intro (heap_below S1.out.1 y) (And.intro (heap_below S1.out.2.1 y) (heap_below S1.out.2.2 y)))
              have S0 := Lib.hid (heap_below S0.out y)
              have DD := Lib.hid (DD.out.below y)
              have U := Lib.hid (U.out.trans (y.mono U.out.size))
              have d0 := cell2_0 S0.out
              have d1 := cell2_1 S0.out
              have g0 := cell2_0 S1.out.2.2
              clear y
              refine hK _ _ ?_
              clear hK K
              refine wpAny_ready (rs := [6]) (by kernel_rfl) (by simp) ?_
              refine AllReady.cons rfl (fun K hK => ?_) AllReady.nil
              go_simp
              refine (HW2.out _ _ DD.out).mono ?_
              rintro e u ⟨v', rfl, D8, y⟩
              have S1 := Lib.hid (And.intro (heap_below S1.out.1 y) (And.intro (heap_below S1.out.2.1 y) (heap_below S1.out.2.2 y)))
              have S0 := Lib.hid (heap_below S0.out y)
              have DD := Lib.hid (DD.out.below y)
              have U := Lib.hid (U.out.trans (y.mono U.out.size))
              have d0 := cell2_0 S0.out
              have d1 := cell2_1 S0.out
              have g0 := cell2_0 S1.out.2.2
              clear y
              obtain ⟨a8, m8, c8, n8, rfl, _⟩ := D8.form
              have f0 := frozen2 S0.out 0
              have f1 := frozen2 S0.out 1
              refine hK _ _ ?_
              clear hK K
              refine wpAny_take (i := 7) (v := ?_) rfl (by kernel_rfl) (by kernel_rfl) (by kernel_rfl) (fun _ _ _ h => h) (Or.inl ⟨by rfl, ?_⟩) ?_
              rotate_left
              · intro Wt; go_simp; with_reducible rfl
              refine wpAny_take (i := 8) (v := ?_) rfl (by kernel_rfl) (by kernel_rfl) (by kernel_rfl) (fun _ _ _ h => h) (Or.inl ⟨by rfl, ?_⟩) ?_
              rotate_left
              · intro Wt; go_simp; with_reducible rfl
              refine wpAny_take (i := 9) (v := ?_) rfl (by kernel_rfl) (by kernel_rfl) (by kernel_rfl) (fun _ _ _ h => h) (Or.inl ⟨by rfl, ?_⟩) ?_
              rotate_left
              · intro Wt; go_simp; with_reducible rfl
              refine wpAny_ready (rs := [10]) (by kernel_rfl) (by simp) ?_
              refine AllReady.cons rfl (fun K hK => ?_) AllReady.nil
              go_simp
              refine hK _ _ ?_
              clear hK K
              refine wpAny_take (i := 11) (v := ?_) rfl (by kernel_rfl) (by kernel_rfl) (by kernel_rfl) (fun _ _ _ h => h) (Or.inl ⟨by rfl, ?_⟩) ?_
              rotate_left
              · intro Wt; go_simp; with_reducible rfl
              refine wpAny_done (by kernel_rfl) ?_ _
              go_wp2_with fail
              go_meet
              exact ⟨rfl, a8, m8, c8, n8, set_two S0.out, two_other (by omega) S1.out.1, two_other (by omega) S1.out.2.1, two_other (by omega) S1.out.2.2, disk_apart (j := 1) (disk_apart (j := 0) D8 S0.out) (Lib.heap_setCell_same (i := 0) S0.out _), below_set (below_set U.out (by omega)) (by omega)⟩
            · go_simp
              refine (HFo.out _).mono ?_
              rintro e u ⟨rfl, y⟩
              have S1 := Lib.hid (And.intro (heap_below S1.out.1 y) (And.intro (heap_below S1.out.2.1 y) (heap_below S1.out.2.2 y)))
              have S0 := Lib.hid (heap_below S0.out y)
              have DD := Lib.hid (DD.out.below y)
              have U := Lib.hid (U.out.trans (y.mono U.out.size))
              have d0 := cell2_0 S0.out
              have d1 := cell2_1 S0.out
              have g0 := cell2_0 S1.out.2.2
              clear y
              refine hK _ _ ?_
              clear hK K
              refine wpAny_ready (rs := [0]) (by kernel_rfl) (by simp) ?_
              refine AllReady.cons rfl (fun K hK => ?_) AllReady.nil
              go_simp
              refine hK _ _ ?_
              clear hK K
              refine wpAny_ready (rs := [6]) (by kernel_rfl) (by simp) ?_
              refine AllReady.cons rfl (fun K hK => ?_) AllReady.nil
              go_simp
              refine (HW2.out _ _ DD.out).mono ?_
              rintro e u ⟨v', rfl, D8, y⟩
              have S1 := Lib.hid (And.intro (heap_below S1.out.1 y) (And.intro (heap_below S1.out.2.1 y) (heap_below S1.out.2.2 y)))
              have S0 := Lib.hid (heap_below S0.out y)
              have DD := Lib.hid (DD.out.below y)
              have U := Lib.hid (U.out.trans (y.mono U.out.size))
              have d0 := cell2_0 S0.out
              have d1 := cell2_1 S0.out
              have g0 := cell2_0 S1.out.2.2
              clear y
              obtain ⟨a8, m8, c8, n8, rfl, _⟩ := D8.form
              have f0 := frozen2 S0.out 0
              have f1 := frozen2 S0.out 1
              refine hK _ _ ?_
              clear hK K
              refine wpAny_take (i := 7) (v := ?_) rfl (by kernel_rfl) (by kernel_rfl) (by kernel_rfl) (fun _ _ _ h => h) (Or.inl ⟨by rfl, ?_⟩) ?_
              rotate_left
              · intro Wt; go_simp; with_reducible rfl
              refine wpAny_take (i := 8) (v := ?_) rfl (by kernel_rfl) (by kernel_rfl) (by kernel_rfl) (fun _ _ _ h => h) (Or.inl ⟨by rfl, ?_⟩) ?_
              rotate_left
              · intro Wt; go_simp; with_reducible rfl
              refine wpAny_take (i := 9) (v := ?_) rfl (by kernel_rfl) (by kernel_rfl) (by kernel_rfl) (fun _ _ _ h => h) (Or.inl ⟨by rfl, ?_⟩) ?_
              rotate_left
              · intro Wt; go_simp; with_reducible rfl
              refine wpAny_ready (rs := [10]) (by kernel_rfl) (by simp) ?_
              refine AllReady.cons rfl (fun K hK => ?_) AllReady.nil
              go_simp
              refine hK _ _ ?_
              clear hK K
              refine wpAny_take (i := 11) (v := ?_) rfl (by kernel_rfl) (by kernel_rfl) (by kernel_rfl) (fun _ _ _ h => h) (Or.inl ⟨by rfl, ?_⟩) ?_
              rotate_left
              · intro Wt; go_simp; with_reducible rfl
              refine wpAny_done (by kernel_rfl) ?_ _
              go_wp2_with fail
              go_meet
              exact ⟨rfl, a8, m8, c8, n8, set_two S0.out, two_other (by omega) S1.out.1, two_other (by omega) S1.out.2.1, two_other (by omega) S1.out.2.2, disk_apart (j := 1) (disk_apart (j := 0) D8 S0.out) (Lib.heap_setCell_same (i := 0) S0.out _), below_set (below_set U.out (by omega)) (by omega)⟩
          case rest =>
            obtain ⟨rfl, a6, m6, c6, n6, P0, P1, P2, P3, P4, P5⟩ := hcut
            clear Q0 Q1 Q2 Q3 Q4 Q5 d0 d1 HFo HW1 HW2 hw2
            obtain ⟨Q0, Q1, Q2, Q3, Q4, Q5⟩ := And.intro P0 (And.intro P1 (And.intro P2 (And.intro P3 (And.intro P4 P5))))
            clear P0 P1 P2 P3 P4 P5
            rename_i W8
            rcases Nat.eq_zero_or_pos r2.2 with hz | hz
            case inr =>
              have hzn : r2.2 ≠ 0 := by omega
              have hr2 := Lib.hid (hR'.out.trans (compact_f4 hc0'.out hg'.out (Int.not_lt.2 hl2.out) e1.out e1z.out e2.out hzn))
              obtain ⟨k, hk⟩ : ∃ k, k = r2.2 := ⟨_, rfl⟩
              rw [← hk] at hz hzn hr2 ⊢
              have hz1 : ((k : Int) != 0) = true := by simp; omega
              have z3 := cell2_0 Q1
              have z4 := cell2_1 Q1
              have z5 := cell2_0 Q2
              have z6 := cell2_1 Q2
              have f0 := frozen2 Q1 0
              have f1 := frozen2 Q1 1
              have f2 := frozen2 Q2 0
              have f3 := frozen2 Q2 1
              clear hk hz hzn
              go_wp2
              exact ret4_none rfl rfl rfl rfl rfl Q1 Q2 (by omega) (by simp) (by simp) Q5 (by omega) (by omega) hr2.out
            have e2z := Lib.hid hz
            rw [hz]
            have hk0 : ((0 : Nat) : Int) = 0 := rfl
            rw [hk0]
            clear hz hk0
            -- the third write
            have d0 := cell2_0 Q0
            have d1 := cell2_1 Q0
            obtain ⟨r3, h3⟩ : ∃ r, r = writeD r2.1 (s : Int) [183] := ⟨_, rfl⟩
            have HW3 := Lib.hid (fun v W h => RWrite_any r2.1 v (s : Int) [183] W h)
            rw [← h3] at HW3
            have e3 := Lib.hid (show r3 = comp3 r2.1 d.1.length (g + 1) by rw [h3, hs'.out, hG1.out]; rfl)
            clear h3
            go_wp2_with fail
            refine (HW3.out _ _ Q4).mono ?_
            rintro e w9 ⟨v', rfl, D9, b9⟩
            obtain ⟨a9, m9, c9, n9, rfl, _⟩ := D9.form
            have P0 := heap_below Q0 b9
            have f0 := frozen2 P0 0
            have f1 := frozen2 P0 1
            clear d0 d1
            have d0 := cell2_0 P0
            have d1 := cell2_1 P0
            go_upto_region 18 with (fail)
            have P1 := two_other (j := 0) (j' := 1) (u := (.slice a9 r3.1.1.length m9)) (u' := (.slice c9 r3.1.2.length n9)) (b := w6.heap.size) (by omega) (heap_below Q1 b9)
            have P2 := two_other (j := 0) (j' := 1) (u := (.slice a9 r3.1.1.length m9)) (u' := (.slice c9 r3.1.2.length n9)) (b := w6.heap.size) (by omega) (heap_below Q2 b9)
            have P3 := two_other (j := 0) (j' := 1) (u := (.slice a9 r3.1.1.length m9)) (u' := (.slice c9 r3.1.2.length n9)) (b := w6.heap.size) (by omega) (heap_below Q3 b9)
            have P4 := disk_apart (j := 1) (u := (.slice c9 r3.1.2.length n9)) (disk_apart (j := 0) (u := (.slice a9 r3.1.1.length m9)) D9 P0) (Lib.heap_setCell_same (i := 0) P0 _)
            have P5 := below_set (j := 1) (u := (.slice c9 r3.1.2.length n9)) (below_set (j := 0) (u := (.slice a9 r3.1.1.length m9)) (Q5.trans (b9.mono Q5.size)) (by omega : w.heap.size ≤ w6.heap.size)) (by omega : w.heap.size ≤ w6.heap.size)
            have P6 := set_two (x' := (.slice a9 r3.1.1.length m9)) (y' := (.slice c9 r3.1.2.length n9)) P0
            generalize (w9.setCell ⟨w6.heap.size, 0, none⟩ (.slice a9 r3.1.1.length m9)).setCell ⟨w6.heap.size, 1, none⟩ (.slice c9 r3.1.2.length n9) = W9 at *
            clear d0 d1 f0 f1 P0 Q0 Q1 Q2 Q3 Q4 Q5 D9 b9 HW3
            obtain ⟨Q0, Q1, Q2, Q3, Q4, Q5⟩ := And.intro P6 (And.intro P1 (And.intro P2 (And.intro P3 (And.intro P4 P5))))
            clear P1 P2 P3 P4 P5 P6
            rcases Nat.eq_zero_or_pos r3.2 with hz | hz
            case inr =>
              have hzn : r3.2 ≠ 0 := by omega
              have hr2 := Lib.hid (hR'.out.trans (compact_f5 hc0'.out hg'.out (Int.not_lt.2 hl2.out) e1.out e1z.out e2.out e2z.out e3.out hzn))
              obtain ⟨k, hk⟩ : ∃ k, k = r3.2 := ⟨_, rfl⟩
              rw [← hk] at hz hzn hr2 ⊢
              have hz1 : ((k : Int) != 0) = true := by simp; omega
              have z3 := cell2_0 Q1
              have z4 := cell2_1 Q1
              have z5 := cell2_0 Q2
              have z6 := cell2_1 Q2
              have f0 := frozen2 Q1 0
              have f1 := frozen2 Q1 1
              have f2 := frozen2 Q2 0
              have f3 := frozen2 Q2 1
              clear hk hz hzn
              go_wp2
              exact ret4_none rfl rfl rfl rfl rfl Q1 Q2 (by omega) (by simp) (by simp) Q5 (by omega) (by omega) hr2.out
            have e3z := Lib.hid hz
            rw [hz]
            have hk0 : ((0 : Nat) : Int) = 0 := rfl
            rw [hk0]
            clear hz hk0
            -- the cut
            obtain ⟨x2, hx2⟩ : ∃ x, x = ((2 * (d.1.length / 4) : Nat) : Int) := ⟨_, rfl⟩
            obtain ⟨x3, hx3⟩ : ∃ x, x = ((d.1.length - 2 * (d.1.length / 4) : Nat) : Int) := ⟨_, rfl⟩
            have HG := Lib.hid (fun W => Rregion_any d.1.length h4 W)
            have he : logRegV d.1.length = .agg #[.int .i64 ((2 * (d.1.length / 4) : Nat) : Int), .int .i64 ((d.1.length - 2 * (d.1.length / 4) : Nat) : Int)] := rfl
            have hreg : regS d.1.length = (x2, x3) := by rw [hx2, hx3]; rfl
            rw [← hx2, ← hx3] at he
            rw [he] at HG
            obtain ⟨r4, h4r⟩ : ∃ r, r = cutJ r3.1 (x2, x3) 0 := ⟨_, rfl⟩
            have HX := Lib.hid (fun v W h => RJCut_any r3.1 v x2 x3 0 W h)
            rw [← h4r] at HX
            have e4 := Lib.hid (show r4 = cutJ r3.1 (regS d.1.length) 0 by rw [hreg]; exact h4r)
            clear h4r hreg he hx2 hx3
            go_upto_region 20 with (fail)
            go_cut [9] from 90 to 98 (fun u W => u = .int .i64 (r4.2 : Int) ∧ ∃ (a8 : Option Addr) (m8 : Nat) (c8 : Option Addr) (n8 : Nat), W.heap[w6.heap.size]? = some (.cells #[.slice a8 r4.1.1.length m8, .slice c8 r4.1.2.length n8] 29 (0, 0)) ∧ W.heap[w.heap.size + 2]? = some (.cells #[.slice none 0 0, .slice none 0 0] 29 (0, 0)) ∧ W.heap[w.heap.size + 2 + 1]? = some (.cells #[.int .u64 0, .int .i64 0] 32 (0, 0)) ∧ W.heap[w.heap.size]? = some (.cells #[.slice ab d.1.length cb, .slice ac d.2.length cc] 29 (0, 0)) ∧ DiskIs W r4.1 (.agg #[.slice a8 r4.1.1.length m8, .slice c8 r4.1.2.length n8]) ∧ Below w.heap.size w W)
            case first =>
              have S0 := Lib.hid (show W9.drew.heap[w6.heap.size]? = _ from Q0)
              have S1 := Lib.hid (And.intro (show W9.drew.heap[w.heap.size + 2]? = _ from Q1) (And.intro (show W9.drew.heap[w.heap.size + 2 + 1]? = _ from Q2) (show W9.drew.heap[w.heap.size]? = _ from Q3)))
              have DD := Lib.hid Q4.drew
              have U := Lib.hid Q5.drew
              have g0 := cell2_0 S1.out.2.2
              clear Q0 Q1 Q2 Q3 Q4 Q5
              have d0 := cell2_0 S0.out
              have d1 := cell2_1 S0.out
              refine wp_region_any (by kernel_rfl) ?_
              refine wpAny_take (i := 1) (v := ?_) rfl (by kernel_rfl) (by kernel_rfl) (by kernel_rfl) (fun _ _ _ h => h) (Or.inl ⟨by rfl, ?_⟩) ?_
              rotate_left
              · intro Wt; go_simp; with_reducible rfl
              refine wpAny_ready (rs := [0, 2]) (by kernel_rfl) (by simp) ?_
              refine AllReady.cons rfl (fun K hK => ?_) (AllReady.cons rfl (fun K hK => ?_) AllReady.nil)
              · go_simp
                refine hK _ _ ?_
                clear hK K
                refine wpAny_ready (rs := [2]) (by kernel_rfl) (by simp) ?_
                refine AllReady.cons rfl (fun K hK => ?_) AllReady.nil
                go_simp
                refine hK _ _ ?_
                clear hK K
                refine wpAny_take (i := 3) (v := ?_) rfl (by kernel_rfl) (by kernel_rfl) (by kernel_rfl) (fun _ _ _ h => h) (Or.inl ⟨by rfl, ?_⟩) ?_
                rotate_left
                · intro Wt; go_simp; with_reducible rfl
                refine wpAny_ready (rs := [4]) (by kernel_rfl) (by simp) ?_
                refine AllReady.cons rfl (fun K hK => ?_) AllReady.nil
                go_simp
                refine (HG.out _).mono ?_
                rintro e u ⟨rfl, y⟩
                have S1 := Lib.hid (And.intro (heap_below S1.out.1 y) (And.intro (heap_below S1.out.2.1 y) (heap_below S1.out.2.2 y)))
                have S0 := Lib.hid (heap_below S0.out y)
                have DD := Lib.hid (DD.out.below y)
                have U := Lib.hid (U.out.trans (y.mono U.out.size))
                have d0 := cell2_0 S0.out
                have d1 := cell2_1 S0.out
                have g0 := cell2_0 S1.out.2.2
                clear y
                refine hK _ _ ?_
                clear hK K
                refine wpAny_ready (rs := [5]) (by kernel_rfl) (by simp) ?_
                refine AllReady.cons rfl (fun K hK => ?_) AllReady.nil
                go_simp
                refine (HX.out _ _ DD.out).mono ?_
                rintro e u ⟨v', rfl, D8, y⟩
                have S1 := Lib.hid (And.intro (heap_below S1.out.1 y) (And.intro (heap_below S1.out.2.1 y) (heap_below S1.out.2.2 y)))
                have S0 := Lib.hid (heap_below S0.out y)
                have DD := Lib.hid (DD.out.below y)
                have U := Lib.hid (U.out.trans (y.mono U.out.size))
                have d0 := cell2_0 S0.out
                have d1 := cell2_1 S0.out
                have g0 := cell2_0 S1.out.2.2
                clear y
                obtain ⟨a8, m8, c8, n8, rfl, _⟩ := D8.form
                have f0 := frozen2 S0.out 0
                have f1 := frozen2 S0.out 1
                refine hK _ _ ?_
                clear hK K
                refine wpAny_take (i := 6) (v := ?_) rfl (by kernel_rfl) (by kernel_rfl) (by kernel_rfl) (fun _ _ _ h => h) (Or.inl ⟨by rfl, ?_⟩) ?_
                rotate_left
                · intro Wt; go_simp; with_reducible rfl
                refine wpAny_take (i := 7) (v := ?_) rfl (by kernel_rfl) (by kernel_rfl) (by kernel_rfl) (fun _ _ _ h => h) (Or.inl ⟨by rfl, ?_⟩) ?_
                rotate_left
                · intro Wt; go_simp; with_reducible rfl
                refine wpAny_take (i := 8) (v := ?_) rfl (by kernel_rfl) (by kernel_rfl) (by kernel_rfl) (fun _ _ _ h => h) (Or.inl ⟨by rfl, ?_⟩) ?_
                rotate_left
                · intro Wt; go_simp; with_reducible rfl
                refine wpAny_ready (rs := [9]) (by kernel_rfl) (by simp) ?_
                refine AllReady.cons rfl (fun K hK => ?_) AllReady.nil
                go_simp
                refine hK _ _ ?_
                clear hK K
                refine wpAny_take (i := 10) (v := ?_) rfl (by kernel_rfl) (by kernel_rfl) (by kernel_rfl) (fun _ _ _ h => h) (Or.inl ⟨by rfl, ?_⟩) ?_
                rotate_left
                · intro Wt; go_simp; with_reducible rfl
                refine wpAny_done (by kernel_rfl) ?_ _
                go_wp2_with fail
                go_meet
                exact ⟨rfl, a8, m8, c8, n8, set_two S0.out, two_other (by omega) S1.out.1, two_other (by omega) S1.out.2.1, two_other (by omega) S1.out.2.2, disk_apart (j := 1) (disk_apart (j := 0) D8 S0.out) (Lib.heap_setCell_same (i := 0) S0.out _), below_set (below_set U.out (by omega)) (by omega)⟩
              · go_simp
                refine hK _ _ ?_
                clear hK K
                refine wpAny_take (i := 3) (v := ?_) rfl (by kernel_rfl) (by kernel_rfl) (by kernel_rfl) (fun _ _ _ h => h) (Or.inl ⟨by rfl, ?_⟩) ?_
                rotate_left
                · intro Wt; go_simp; with_reducible rfl
                refine wpAny_ready (rs := [0, 4]) (by kernel_rfl) (by simp) ?_
                refine AllReady.cons rfl (fun K hK => ?_) (AllReady.cons rfl (fun K hK => ?_) AllReady.nil)
                · go_simp
                  refine hK _ _ ?_
                  clear hK K
                  refine wpAny_ready (rs := [4]) (by kernel_rfl) (by simp) ?_
                  refine AllReady.cons rfl (fun K hK => ?_) AllReady.nil
                  go_simp
                  refine (HG.out _).mono ?_
                  rintro e u ⟨rfl, y⟩
                  have S1 := Lib.hid (And.intro (heap_below S1.out.1 y) (And.intro (heap_below S1.out.2.1 y) (heap_below S1.out.2.2 y)))
                  have S0 := Lib.hid (heap_below S0.out y)
                  have DD := Lib.hid (DD.out.below y)
                  have U := Lib.hid (U.out.trans (y.mono U.out.size))
                  have d0 := cell2_0 S0.out
                  have d1 := cell2_1 S0.out
                  have g0 := cell2_0 S1.out.2.2
                  clear y
                  refine hK _ _ ?_
                  clear hK K
                  refine wpAny_ready (rs := [5]) (by kernel_rfl) (by simp) ?_
                  refine AllReady.cons rfl (fun K hK => ?_) AllReady.nil
                  go_simp
                  refine (HX.out _ _ DD.out).mono ?_
                  rintro e u ⟨v', rfl, D8, y⟩
                  have S1 := Lib.hid (And.intro (heap_below S1.out.1 y) (And.intro (heap_below S1.out.2.1 y) (heap_below S1.out.2.2 y)))
                  have S0 := Lib.hid (heap_below S0.out y)
                  have DD := Lib.hid (DD.out.below y)
                  have U := Lib.hid (U.out.trans (y.mono U.out.size))
                  have d0 := cell2_0 S0.out
                  have d1 := cell2_1 S0.out
                  have g0 := cell2_0 S1.out.2.2
                  clear y
                  obtain ⟨a8, m8, c8, n8, rfl, _⟩ := D8.form
                  have f0 := frozen2 S0.out 0
                  have f1 := frozen2 S0.out 1
                  refine hK _ _ ?_
                  clear hK K
                  refine wpAny_take (i := 6) (v := ?_) rfl (by kernel_rfl) (by kernel_rfl) (by kernel_rfl) (fun _ _ _ h => h) (Or.inl ⟨by rfl, ?_⟩) ?_
                  rotate_left
                  · intro Wt; go_simp; with_reducible rfl
                  refine wpAny_take (i := 7) (v := ?_) rfl (by kernel_rfl) (by kernel_rfl) (by kernel_rfl) (fun _ _ _ h => h) (Or.inl ⟨by rfl, ?_⟩) ?_
                  rotate_left
                  · intro Wt; go_simp; with_reducible rfl
                  refine wpAny_take (i := 8) (v := ?_) rfl (by kernel_rfl) (by kernel_rfl) (by kernel_rfl) (fun _ _ _ h => h) (Or.inl ⟨by rfl, ?_⟩) ?_
                  rotate_left
                  · intro Wt; go_simp; with_reducible rfl
                  refine wpAny_ready (rs := [9]) (by kernel_rfl) (by simp) ?_
                  refine AllReady.cons rfl (fun K hK => ?_) AllReady.nil
                  go_simp
                  refine hK _ _ ?_
                  clear hK K
                  refine wpAny_take (i := 10) (v := ?_) rfl (by kernel_rfl) (by kernel_rfl) (by kernel_rfl) (fun _ _ _ h => h) (Or.inl ⟨by rfl, ?_⟩) ?_
                  rotate_left
                  · intro Wt; go_simp; with_reducible rfl
                  refine wpAny_done (by kernel_rfl) ?_ _
                  go_wp2_with fail
                  go_meet
                  exact ⟨rfl, a8, m8, c8, n8, set_two S0.out, two_other (by omega) S1.out.1, two_other (by omega) S1.out.2.1, two_other (by omega) S1.out.2.2, disk_apart (j := 1) (disk_apart (j := 0) D8 S0.out) (Lib.heap_setCell_same (i := 0) S0.out _), below_set (below_set U.out (by omega)) (by omega)⟩
                · go_simp
                  refine (HG.out _).mono ?_
                  rintro e u ⟨rfl, y⟩
                  have S1 := Lib.hid (And.intro (heap_below S1.out.1 y) (And.intro (heap_below S1.out.2.1 y) (heap_below S1.out.2.2 y)))
                  have S0 := Lib.hid (heap_below S0.out y)
                  have DD := Lib.hid (DD.out.below y)
                  have U := Lib.hid (U.out.trans (y.mono U.out.size))
                  have d0 := cell2_0 S0.out
                  have d1 := cell2_1 S0.out
                  have g0 := cell2_0 S1.out.2.2
                  clear y
                  refine hK _ _ ?_
                  clear hK K
                  refine wpAny_ready (rs := [0]) (by kernel_rfl) (by simp) ?_
                  refine AllReady.cons rfl (fun K hK => ?_) AllReady.nil
                  go_simp
                  refine hK _ _ ?_
                  clear hK K
                  refine wpAny_ready (rs := [5]) (by kernel_rfl) (by simp) ?_
                  refine AllReady.cons rfl (fun K hK => ?_) AllReady.nil
                  go_simp
                  refine (HX.out _ _ DD.out).mono ?_
                  rintro e u ⟨v', rfl, D8, y⟩
                  have S1 := Lib.hid (And.intro (heap_below S1.out.1 y) (And.intro (heap_below S1.out.2.1 y) (heap_below S1.out.2.2 y)))
                  have S0 := Lib.hid (heap_below S0.out y)
                  have DD := Lib.hid (DD.out.below y)
                  have U := Lib.hid (U.out.trans (y.mono U.out.size))
                  have d0 := cell2_0 S0.out
                  have d1 := cell2_1 S0.out
                  have g0 := cell2_0 S1.out.2.2
                  clear y
                  obtain ⟨a8, m8, c8, n8, rfl, _⟩ := D8.form
                  have f0 := frozen2 S0.out 0
                  have f1 := frozen2 S0.out 1
                  refine hK _ _ ?_
                  clear hK K
                  refine wpAny_take (i := 6) (v := ?_) rfl (by kernel_rfl) (by kernel_rfl) (by kernel_rfl) (fun _ _ _ h => h) (Or.inl ⟨by rfl, ?_⟩) ?_
                  rotate_left
                  · intro Wt; go_simp; with_reducible rfl
                  refine wpAny_take (i := 7) (v := ?_) rfl (by kernel_rfl) (by kernel_rfl) (by kernel_rfl) (fun _ _ _ h => h) (Or.inl ⟨by rfl, ?_⟩) ?_
                  rotate_left
                  · intro Wt; go_simp; with_reducible rfl
                  refine wpAny_take (i := 8) (v := ?_) rfl (by kernel_rfl) (by kernel_rfl) (by kernel_rfl) (fun _ _ _ h => h) (Or.inl ⟨by rfl, ?_⟩) ?_
                  rotate_left
                  · intro Wt; go_simp; with_reducible rfl
                  refine wpAny_ready (rs := [9]) (by kernel_rfl) (by simp) ?_
                  refine AllReady.cons rfl (fun K hK => ?_) AllReady.nil
                  go_simp
                  refine hK _ _ ?_
                  clear hK K
                  refine wpAny_take (i := 10) (v := ?_) rfl (by kernel_rfl) (by kernel_rfl) (by kernel_rfl) (fun _ _ _ h => h) (Or.inl ⟨by rfl, ?_⟩) ?_
                  rotate_left
                  · intro Wt; go_simp; with_reducible rfl
                  refine wpAny_done (by kernel_rfl) ?_ _
                  go_wp2_with fail
                  go_meet
                  exact ⟨rfl, a8, m8, c8, n8, set_two S0.out, two_other (by omega) S1.out.1, two_other (by omega) S1.out.2.1, two_other (by omega) S1.out.2.2, disk_apart (j := 1) (disk_apart (j := 0) D8 S0.out) (Lib.heap_setCell_same (i := 0) S0.out _), below_set (below_set U.out (by omega)) (by omega)⟩
            case rest =>
              obtain ⟨rfl, a6, m6, c6, n6, P0, P1, P2, P3, P4, P5⟩ := hcut
              clear Q0 Q1 Q2 Q3 Q4 Q5
              obtain ⟨Q0, Q1, Q2, Q3, Q4, Q5⟩ := And.intro P0 (And.intro P1 (And.intro P2 (And.intro P3 (And.intro P4 P5))))
              clear P0 P1 P2 P3 P4 P5 HG HX
              rename_i W10
              rcases Nat.eq_zero_or_pos r4.2 with hz | hz
              case inr =>
                have hzn : r4.2 ≠ 0 := by omega
                have hr2 := Lib.hid (hR'.out.trans (compact_f6 hc0'.out hg'.out (Int.not_lt.2 hl2.out) e1.out e1z.out e2.out e2z.out e3.out e3z.out e4.out hzn))
                obtain ⟨k, hk⟩ : ∃ k, k = r4.2 := ⟨_, rfl⟩
                rw [← hk] at hz hzn hr2 ⊢
                have hz1 : ((k : Int) != 0) = true := by simp; omega
                have z3 := cell2_0 Q1
                have z4 := cell2_1 Q1
                have z5 := cell2_0 Q2
                have z6 := cell2_1 Q2
                have f0 := frozen2 Q1 0
                have f1 := frozen2 Q1 1
                have f2 := frozen2 Q2 0
                have f3 := frozen2 Q2 1
                clear hk hz hzn
                go_wp2
                exact ret4_none rfl rfl rfl rfl rfl Q1 Q2 (by omega) (by simp) (by simp) Q5 (by omega) (by omega) hr2.out
              have e4z := Lib.hid hz
              rw [hz]
              have hk0 : ((0 : Nat) : Int) = 0 := rfl
              rw [hk0]
              clear hz hk0
              have hr2 := Lib.hid (hR'.out.trans (compact_done hc0'.out hg'.out (Int.not_lt.2 hl2.out) e1.out e1z.out e2.out e2z.out e3.out e3z.out e4.out e4z.out))
              have d0 := cell2_0 Q0
              have d1 := cell2_1 Q0
              have z3 := cell2_0 Q1
              have z4 := cell2_1 Q1
              have z5 := cell2_0 Q2
              have z6 := cell2_1 Q2
              have f0 := frozen2 Q1 0
              have f1 := frozen2 Q1 1
              have f2 := frozen2 Q2 0
              have f3 := frozen2 Q2 1
              go_wp2
              exact ret4 (g := G) (z := 0) (k := 0) rfl rfl rfl rfl rfl Q1 Q2 (by omega) (by simp) (by simp) (by simp) (by simp) Q5 (by omega) (by omega) (by rw [hr2.out]; exact Q4) (by rw [hr2.out, hG1.out]) (by rw [hr2.out]) (by rw [hr2.out])
  · have hc1 : ((C : Int) != 0) = true := by simp; omega
    have hr2 := hR'.out.trans (compact_f0 (by rw [← hC'.out]; exact hc))
    rw [← hC'.out] at hr2
    have hr3 := Lib.hid hr2
    clear hc k0 k1 hr2
    go_wp2
    exact ret4_none rfl rfl rfl rfl rfl K2 K3 (by omega) (by simp) (by simp) hB.out (by omega) (by omega) hr3.out
end Go.Proofs.YtmfbkelhegdmpaaGreatDoor
