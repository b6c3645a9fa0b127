/- The walk of the program's Compact, chapter 13 (snap). -/
import Derived.Test.YtmfbkelhegdmpaaGreatDoorSnapEnds
import Derived.Test.YtmfbkelhegdmpaaGreatDoorSnapIU
import Derived.Test.YtmfbkelhegdmpaaGreatDoorSnapCG
import Derived.Test.YtmfbkelhegdmpaaGreatDoorJournalP
namespace Go.Proofs.YtmfbkelhegdmpaaGreatDoor
open Go.RowKit Disk11 Journal12 Sum2

set_option maxHeartbeats 8000000 in
set_option maxRecDepth 100000 in
theorem Compact_any13 (d : Dev) (v : Value) (g : Nat) (p : Int) (x : List UInt8) (w : World) (hg64 : g < 18446744073709551616) (hx : x.length ≤ 1099511627776) (h : DiskIs w d v) (ht : Tab w) :
    Calls Tryz.prog 23 #[v, logV g p, .string ⟨x.toArray⟩] w (SnapPost w (compactS d (g, p) x)) := by
  have HO := Lib.hid (fun W h => opened_any d v g p W h)
  have HM := Lib.hid (fun W => must_ok W)
  have HF := Lib.hid (fun k hk W => must_fail k hk W)
  obtain ⟨C, hC⟩ : ∃ C, C = checkS d (g, p) := ⟨_, rfl⟩
  rw [← hC] at HO
  have hC' := Lib.hid hC
  obtain ⟨R, hR⟩ : ∃ R, R = compactS d (g, p) x := ⟨_, rfl⟩
  rw [← hR]
  have hR' := Lib.hid hR
  obtain ⟨x1, hx1⟩ : ∃ x, x = ((d.1.length / 4 : Nat) : Int) := ⟨_, rfl⟩
  obtain ⟨x2, hx2⟩ : ∃ x, x = ((2 * (d.1.length / 4) : Nat) : Int) := ⟨_, rfl⟩
  obtain ⟨x3, hx3⟩ : ∃ x, x = ((d.1.length - 2 * (d.1.length / 4) : Nat) : Int) := ⟨_, rfl⟩
  have he : layV d.1.length = .agg #[.int .i64 ((d.1.length / 4 : Nat) : Int), .int .i64 ((2 * (d.1.length / 4) : Nat) : Int), .int .i64 ((d.1.length - 2 * (d.1.length / 4) : Nat) : Int)] := rfl
  have hreg : regS d.1.length = (x2, x3) := by rw [hx2, hx3]; rfl
  rw [← hx1, ← hx2, ← hx3] at he
  rw [he] at HO
  have hreg' := Lib.hid hreg
  have he' := Lib.hid he
  have z2 : (⟨x.toArray⟩ : ByteArray).size = x.length := rfl
  clear hC hR he hx1 hx2 hx3 hreg
  obtain ⟨ab, cb, ac, cc, rfl, _, _, _, _⟩ := h.form
  obtain ⟨WA, hWA⟩ : ∃ WA, (w.alloc (.cells #[.slice ab d.1.length cb, .slice ac d.2.length cc] 29)).alloc (.cells #[.int .u64 (g : Int), .int .i64 p] 32) = WA := ⟨_, rfl⟩
  obtain ⟨k0, k1, hsA, eA⟩ := alloc2 w (.cells #[.slice ab d.1.length cb, .slice ac d.2.length cc] 29) (.cells #[.int .u64 (g : Int), .int .i64 p] 32)
  rw [hWA] at k0 k1 hsA eA
  obtain ⟨k2, k3, hsB, eB⟩ := alloc2 WA (.cells #[.slice none 0 0, .slice none 0 0] 29) (.cells #[.int .u64 0, .int .i64 0] 32)
  obtain ⟨WB, hWB⟩ : ∃ WB, (WA.alloc (.cells #[.slice none 0 0, .slice none 0 0] 29)).alloc (.cells #[.int .u64 0, .int .i64 0] 32) = WB := ⟨_, rfl⟩
  rw [hWB] at k2 k3 hsB eB
  rw [hsA] at k2 k3 hsB
  have eC := Go.Joins.below_alloc1 WB (.cells #[.int .i64 0] 23)
  have k4 := World.alloc_heap_new WB (.cells #[.int .i64 0] 23)
  rw [hsB] at k4
  have eAB := eA.trans (eB.mono eA.size)
  have hB := Lib.hid (eAB.trans (eC.mono eAB.size))
  have k0' := heap_below (heap_below k0 eB) eC
  have k1' := heap_below (heap_below k1 eB) eC
  have k2' := heap_below k2 eC
  have k3' := heap_below k3 eC
  have h0 := Lib.hid h
  have hT := Lib.hid ht
  clear h ht k0 k1 k2 k3 eA eB eC eAB
  go_enter_defers Tryz.func23, Tryz.ntmps23
  go_upto_region 2 with (fail)
  generalize hW1 : WB.alloc (.cells #[.int .i64 0] 23) = W1 at *
  clear hW1 hWA hWB hsA hsB
  have c0 := cell2_0 k0'
  have c1 := cell2_1 k0'
  have l0 := cell2_0 k1'
  have l1 := cell2_1 k1'
  go_wp2_with fail
  refine (HO.out _ (h0.out.below hB.out)).mono ?_
  rintro e w2 (⟨ho, rfl, hgd, b2⟩ | ⟨ho, rfl, b2⟩)
  · have hc0 := Lib.hid (hC'.out.symm.trans ho)
    obtain ⟨_, h8, hg1, hg2, _, _⟩ := check_ok hc0.out
    have hb4 := hgd.2.1
    have B2 := Lib.hid (hB.out.trans (b2.mono hB.out.size))
    have k02 := heap_below k0' b2
    have k12 := heap_below k1' b2
    have k22 := heap_below k2' b2
    have k32 := heap_below k3' b2
    have k42 := heap_below k4 b2
    have ho' := Lib.hid ho
    have a3 := Go.Joins.below_alloc1 w2 (.cells #[.int .i64 x1, .int .i64 x2, .int .i64 x3] 67)
    have k53 := World.alloc_heap_new w2 (.cells #[.int .i64 x1, .int .i64 x2, .int .i64 x3] 67)
    have k03 := heap_below k02 a3
    have k13 := heap_below k12 a3
    have k23 := heap_below k22 a3
    have k33 := heap_below k32 a3
    have k43 := heap_below k42 a3
    have B3 := Lib.hid (B2.out.trans (a3.mono B2.out.size))
    have lw2 : w.heap.size + 2 + 2 < w2.heap.size := (Array.getElem?_eq_some_iff.1 k42).1
    have HG := Lib.hid hgd
    clear c0 c1 l0 l1 k0' k1' k2' k3' k4 k02 k12 k22 k32 k42 a3 b2 ho hgd
    go_upto_region 3 with (fail)
    generalize hW3 : (w2.alloc (.cells #[.int .i64 x1, .int .i64 x2, .int .i64 x3] 67)) = W3 at *
    clear hW3
    have l0 := cell2_0 k13
    have y0 := cell3_0 k53
    have y1 := cell3_1 k53
    have y2 := cell3_2 k53
    have HK := Lib.hid (And.intro k03 (And.intro k13 (And.intro k23 (And.intro k33 k43))))
    clear k03 k13 k23 k33 k43 k53
    obtain ⟨G, hGg⟩ : ∃ G, G = g + 1 := ⟨_, rfl⟩
    have hw : IntKind.u64.wrap ((g : Int) + 1) = (G : Int) := by
      rw [hGg]; simp [IntKind.wrap, IntKind.bits]; omega
    have hG1 := Lib.hid hGg
    by_cases hg : g = 1099511627776
    · have t1 : decide ((1099511627776 : Int) < (G : Int)) = true := by simp; omega
      have hr2 := Lib.hid (hR'.out.trans (compact_f1 hc0.out hg))
      have hg' := Lib.hid hg
      clear hg hGg
      go_wp2_with fail
      refine (HF.out 2 (by decide) _).mono ?_
      rintro e w5 ⟨rfl, rfl⟩
      go_wp2
      exact fault_leaves rfl rfl rfl rfl HK.out.2.2.1 HK.out.2.2.2.1 HK.out.2.2.2.2 B3.out (Nat.le_refl _) hr2.out
    · have t1 : decide ((1099511627776 : Int) < (G : Int)) = false := by simp; omega
      have hG2 : G ≤ 1099511627776 := by omega
      have hg' := Lib.hid hg
      have HC := Lib.hid (fun W => capacity_any d.1.length hb4 (by omega) W)
      have HS := Lib.hid (fun W => start_any d.1.length G hb4 (by omega) W)
      rw [he'.out] at HC HS
      obtain ⟨cp, hcp⟩ : ∃ cp, cp = slotN d.1.length - 17 := ⟨_, rfl⟩
      have hcp2 : cp ≤ 65536 := by rw [hcp]; unfold slotN; omega
      have hcap := cap_ok h8 hb4
      rw [← hcp] at HC hcap
      have hcap' := Lib.hid hcap
      obtain ⟨s, hs⟩ : ∃ s, s = placeS d.1.length G := ⟨_, rfl⟩
      have hsl : s ≤ 65536 := by rw [hs]; unfold placeS slotN; have : G % 2 ≤ 1 := by omega
                                 exact Nat.le_trans (Nat.mul_le_mul_left _ this) (by omega)
      have hs' := Lib.hid hs
      have hcp' := Lib.hid hcp
      rw [← hs] at HS
      clear hg hGg hs hcp hcap
      go_wp2_with fail
      refine (HC.out _).mono ?_
      rintro e w4 ⟨rfl, b4⟩
      have Q := Lib.hid (And.intro (heap_below HK.out.1 b4) (And.intro (heap_below HK.out.2.1 b4) (And.intro (heap_below HK.out.2.2.1 b4) (And.intro (heap_below HK.out.2.2.2.1 b4) (heap_below HK.out.2.2.2.2 b4)))))
      have B4 := Lib.hid (B3.out.trans (b4.mono B3.out.size))
      have y0 := cell_below b4 y0
      have y1 := cell_below b4 y1
      have y2 := cell_below b4 y2
      clear b4 l0
      by_cases hlen : cp < x.length
      · have t2 : decide ((cp : Int) < (x.length : Int)) = true := by simp; omega
        have hr2 := Lib.hid (hR'.out.trans (compact_f2 hc0.out hg'.out (by rw [hcap'.out]; exact Int.ofNat_lt.2 hlen)))
        go_wp2_with fail
        refine (HF.out 4 (by decide) _).mono ?_
        rintro e w5 ⟨rfl, rfl⟩
        go_wp2
        exact fault_leaves rfl rfl rfl rfl Q.out.2.2.1 Q.out.2.2.2.1 Q.out.2.2.2.2 B4.out (Nat.le_refl _) hr2.out
      · have t2 : decide ((cp : Int) < (x.length : Int)) = false := by simp; omega
        have hl2 := Lib.hid (show (x.length : Int) ≤ (capS d.1.length).1 by rw [hcap'.out]; omega)
        go_wp2_with fail
        refine (HS.out _).mono ?_
        rintro e w5 ⟨rfl, b5⟩
        have Q5 := Lib.hid (And.intro (heap_below Q.out.1 b5) (And.intro (heap_below Q.out.2.1 b5) (And.intro (heap_below Q.out.2.2.1 b5) (And.intro (heap_below Q.out.2.2.2.1 b5) (heap_below Q.out.2.2.2.2 b5)))))
        have B5 := Lib.hid (B4.out.trans (b5.mono B4.out.size))
        have y1 := cell_below b5 y1
        have y2 := cell_below b5 y2
        have d0 := cell2_0 Q5.out.1
        have d1 := cell2_1 Q5.out.1
        obtain ⟨r1, h1⟩ : ∃ r, r = writeD d (s : Int) [0] := ⟨_, rfl⟩
        have HW1 := Lib.hid (fun v W h => write_any13 d v (s : Int) [0] W h)
        rw [← h1] at HW1
        have e1 := Lib.hid (show r1 = comp1 d (g + 1) by rw [h1, hs'.out, hG1.out]; rfl)
        clear h1 b5
        go_wp2_with fail
        refine (HW1.out _ _ (h0.out.below B5.out)).mono ?_
        rintro e w6 (⟨k1, v', rfl, D6, b6⟩ | ⟨k1, rfl, b6⟩)
        · obtain ⟨a6, m6, c6, n6, rfl, _, _, _, _⟩ := D6.form
          have Q6 := Lib.hid (And.intro (heap_below Q5.out.1 b6) (And.intro (heap_below Q5.out.2.1 b6) (And.intro (heap_below Q5.out.2.2.1 b6) (And.intro (heap_below Q5.out.2.2.2.1 b6) (heap_below Q5.out.2.2.2.2 b6)))))
          have B6 := Lib.hid (B5.out.trans (b6.mono B5.out.size))
          have y1 := cell_below b6 y1
          have y2 := cell_below b6 y2
          have d0 := cell2_0 Q6.out.1
          have d1 := cell2_1 Q6.out.1
          have f0 := frozen2 Q6.out.1 0
          have f1 := frozen2 Q6.out.1 1
          have hk1 := Lib.hid k1
          clear k1
          go_upto_region 10 with (fail)
          have S0 := set_two (x' := .slice a6 r1.1.1.length m6) (y' := .slice c6 r1.1.2.length n6) Q6.out.1
          have DD := Lib.hid (disk_apart (j := 1) (u := .slice c6 r1.1.2.length n6) (disk_apart (j := 0) (u := .slice a6 r1.1.1.length m6) D6 Q6.out.1) (Lib.heap_setCell_same (i := 0) Q6.out.1 _)).drew
          have R0 := Lib.hid (And.intro (two_other (j := 0) (j' := 1) (u := .slice a6 r1.1.1.length m6) (u' := .slice c6 r1.1.2.length n6) (b := w.heap.size) (by omega) Q6.out.2.1) (And.intro (two_other (j := 0) (j' := 1) (u := .slice a6 r1.1.1.length m6) (u' := .slice c6 r1.1.2.length n6) (b := w.heap.size) (by omega) Q6.out.2.2.1) (And.intro (two_other (j := 0) (j' := 1) (u := .slice a6 r1.1.1.length m6) (u' := .slice c6 r1.1.2.length n6) (b := w.heap.size) (by omega) Q6.out.2.2.2.1) (two_other (j := 0) (j' := 1) (u := .slice a6 r1.1.1.length m6) (u' := .slice c6 r1.1.2.length n6) (b := w.heap.size) (by omega) Q6.out.2.2.2.2))))
          have U0 := Lib.hid (below_set (j := 1) (u := .slice c6 r1.1.2.length n6) (below_set (j := 0) (u := .slice a6 r1.1.1.length m6) B6.out (Nat.le_refl _)) (Nat.le_refl _)).drew
          have y1 := keep_far (keep_far y1 (p := ⟨w.heap.size, 0, none⟩) (v := .slice a6 r1.1.1.length m6) (show w.heap.size ≠ w2.heap.size by omega)) (p := ⟨w.heap.size, 1, none⟩) (v := .slice c6 r1.1.2.length n6) (show w.heap.size ≠ w2.heap.size by omega)
          have y2 := keep_far (keep_far y2 (p := ⟨w.heap.size, 0, none⟩) (v := .slice a6 r1.1.1.length m6) (show w.heap.size ≠ w2.heap.size by omega)) (p := ⟨w.heap.size, 1, none⟩) (v := .slice c6 r1.1.2.length n6) (show w.heap.size ≠ w2.heap.size by omega)
          generalize (w6.setCell ⟨w.heap.size, 0, none⟩ (.slice a6 r1.1.1.length m6)).setCell ⟨w.heap.size, 1, none⟩ (.slice c6 r1.1.2.length n6) = W7 at *
          have d0 := cell2_0 S0
          have d1 := cell2_1 S0
          have y1' : W7.drew.cell? _ = _ := y1
          have y2' : W7.drew.cell? _ = _ := y2
          have S0 := Lib.hid (show W7.drew.heap[w.heap.size]? = _ from S0)
          have R0 := Lib.hid (And.intro (show W7.drew.heap[w.heap.size + 1]? = _ from R0.out.1) (And.intro (show W7.drew.heap[w.heap.size + 2]? = _ from R0.out.2.1) (And.intro (show W7.drew.heap[w.heap.size + 2 + 1]? = _ from R0.out.2.2.1) (show W7.drew.heap[w.heap.size + 2 + 2]? = _ from R0.out.2.2.2))))
          have hw2 : IntKind.i64.wrap ((s : Int) + 1) = (s : Int) + 1 := by simp [IntKind.wrap, IntKind.bits]; omega
          have HFo := Lib.hid (fun W t => sform_any G x (by omega) (by omega) W t)
          obtain ⟨F, hF⟩ : ∃ F, F = formS G x := ⟨_, rfl⟩
          rw [← hF] at HFo
          obtain ⟨r2, h2⟩ : ∃ r, r = writeD r1.1 ((s : Int) + 1) F := ⟨_, rfl⟩
          have HW2 := Lib.hid (fun v W h => write_any13 r1.1 v ((s : Int) + 1) F W h)
          rw [← h2] at HW2
          have e2 := Lib.hid (show r2 = comp2 r1.1 d.1.length (g + 1) x by rw [h2, hF, hs'.out, hG1.out]; rfl)
          clear h2 hF D6 f0 f1
          -- REGION 10
          go_cut [42] from 36 to 42 (fun u W => ∃ (a8 : Option Addr) (m8 : Nat) (c8 : Option Addr) (n8 : Nat), r2.2 = 0 ∧ W.heap[w.heap.size]? = some (.cells #[.slice a8 r2.1.1.length m8, .slice c8 r2.1.2.length n8] 29 (0, 0)) ∧ DiskIs W r2.1 (.agg #[.slice a8 r2.1.1.length m8, .slice c8 r2.1.2.length n8]) ∧ W.heap[w.heap.size + 1]? = some (.cells #[.int .u64 (g : Int), .int .i64 p] 32 (0, 0)) ∧ W.heap[w.heap.size + 2]? = some (.cells #[.slice none 0 0, .slice none 0 0] 29 (0, 0)) ∧ W.heap[w.heap.size + 2 + 1]? = some (.cells #[.int .u64 0, .int .i64 0] 32 (0, 0)) ∧ W.heap[w.heap.size + 2 + 2]? = some (.cells #[.int .i64 0] 23 (0, 0)) ∧ W.cell? ⟨w2.heap.size, 1, none⟩ = some (.int .i64 x2) ∧ W.cell? ⟨w2.heap.size, 2, none⟩ = some (.int .i64 x3) ∧ Below w.heap.size w W)
          case first =>
            refine wp_region_any (by kernel_rfl) (wpAny_framed _ _ _ _ _ (TmpsAs.refl _ _) ?_)
            refine wpAny_take (i := 1) (v := ?_) rfl (by kernel_rfl) (by kernel_rfl) (by kernel_rfl) (fun _ _ _ h => framed_put h) (Or.inl ⟨by rfl, ?_⟩) ?_
            rotate_left
            · intro Wt; go_simp; with_reducible rfl
            refine wpAny_take (i := 2) (v := ?_) rfl (by kernel_rfl) (by kernel_rfl) (by kernel_rfl) (fun _ _ _ h => framed_put h) (Or.inl ⟨by rfl, ?_⟩) ?_
            rotate_left
            · intro Wt; go_simp; with_reducible rfl
            refine wpAny_take (i := 3) (v := ?_) rfl (by kernel_rfl) (by kernel_rfl) (by kernel_rfl) (fun _ _ _ h => framed_put h) (Or.inl ⟨by rfl, ?_⟩) ?_
            rotate_left
            · intro Wt; go_simp; with_reducible rfl
            refine wpAny_take (i := 4) (v := ?_) rfl (by kernel_rfl) (by kernel_rfl) (by kernel_rfl) (fun _ _ _ h => framed_put h) (Or.inl ⟨by rfl, ?_⟩) ?_
            rotate_left
            · intro Wt; go_simp; with_reducible rfl
            refine wpAny_ready (rs := [0, 5]) (by kernel_rfl) (by simp) ?_
            refine AllReady.cons rfl (fun K hK => ?_) (AllReady.cons rfl (fun K hK => ?_) AllReady.nil)
            · go_simp
              refine hK _ _ ?_
              clear hK K
              refine wpAny_ready (rs := [5]) (by kernel_rfl) (by simp) ?_
              refine AllReady.cons rfl (fun K hK => ?_) AllReady.nil
              go_simp
              refine (HFo.out _ (hT.out.below U0.out)).mono ?_
              rintro e u1 ⟨rfl, q1⟩
              have S1 := Lib.hid (heap_below S0.out q1)
              have U1 := Lib.hid (U0.out.trans (q1.mono U0.out.size))
              have V1 := Lib.hid (And.intro (heap_below R0.out.1 q1) (And.intro (heap_below R0.out.2.1 q1) (And.intro (heap_below R0.out.2.2.1 q1) (heap_below R0.out.2.2.2 q1))))
              have D1 := Lib.hid (DD.out.below q1)
              have m1 := cell_below q1 y1'
              have m2 := cell_below q1 y2'
              have d0' := cell2_0 S1.out
              have d1' := cell2_1 S1.out
              refine hK _ _ ?_
              clear hK K
              refine wpAny_ready (rs := [6]) (by kernel_rfl) (by simp) ?_
              refine AllReady.cons rfl (fun K hK => ?_) AllReady.nil
              go_simp
              refine (HW2.out _ _ D1.out).mono ?_
              rintro e w8 (⟨k2, v', rfl, D8, b8⟩ | ⟨k2, rfl, b8⟩)
              · refine hK _ _ ?_
                clear hK K
                obtain ⟨a8, m8, c8, n8, rfl, _⟩ := D8.form
                have S8 := heap_below S1.out b8
                have d0'' := cell2_0 S8
                have d1'' := cell2_1 S8
                have f0'' := frozen2 S8 0
                have f1'' := frozen2 S8 1
                refine wpAny_ready (rs := [7]) (by kernel_rfl) (by simp) ?_
                refine AllReady.cons rfl (fun K hK => ?_) AllReady.nil
                go_simp
                refine hK _ _ ?_
                clear hK K
                refine wpAny_done (by kernel_rfl) ?_ _
                refine framed_normal ?_
                go_wp2_with fail
                go_meet
                exact ⟨a8, m8, c8, n8, k2, set_two S8, disk_apart (j := 1) (disk_apart (j := 0) D8 S8) (Lib.heap_setCell_same (i := 0) S8 _), two_other (by omega) (heap_below V1.out.1 b8), two_other (by omega) (heap_below V1.out.2.1 b8), two_other (by omega) (heap_below V1.out.2.2.1 b8), two_other (by omega) (heap_below V1.out.2.2.2 b8), keep_far (keep_far (cell_below b8 m1) (by show w.heap.size ≠ w2.heap.size; omega)) (by show w.heap.size ≠ w2.heap.size; omega), keep_far (keep_far (cell_below b8 m2) (by show w.heap.size ≠ w2.heap.size; omega)) (by show w.heap.size ≠ w2.heap.size; omega), below_set (below_set (U1.out.trans (b8.mono U1.out.size)) (Nat.le_refl _)) (Nat.le_refl _)⟩
              · refine fun a' hd ht => ?_
                clear hK K
                have hr2 := Lib.hid (hR'.out.trans (compact_f4 hc0.out hg'.out (Int.not_lt.2 hl2.out) e1.out hk1.out e2.out k2))
                have hd' : a'.defers = [{ target := .fn (.func 46) #[], args := #[.pointer (some ⟨w.heap.size + 2 + 2, 0, none⟩)] }] := hd
                show Leaves _ _ a'.tmps _ a'.defers _ _
                rw [hd']
                exact fault_leaves rfl ((ht 6 (by simp)).trans rfl) ((ht 7 (by simp)).trans rfl) ((ht 8 (by simp)).trans rfl) (heap_below V1.out.2.1 b8) (heap_below V1.out.2.2.1 b8) (heap_below V1.out.2.2.2 b8) (U1.out.trans (b8.mono U1.out.size)) (Nat.le_refl _) hr2.out
            · go_simp
              refine (HFo.out _ (hT.out.below U0.out)).mono ?_
              rintro e u1 ⟨rfl, q1⟩
              have S1 := Lib.hid (heap_below S0.out q1)
              have U1 := Lib.hid (U0.out.trans (q1.mono U0.out.size))
              have V1 := Lib.hid (And.intro (heap_below R0.out.1 q1) (And.intro (heap_below R0.out.2.1 q1) (And.intro (heap_below R0.out.2.2.1 q1) (heap_below R0.out.2.2.2 q1))))
              have D1 := Lib.hid (DD.out.below q1)
              have m1 := cell_below q1 y1'
              have m2 := cell_below q1 y2'
              have d0' := cell2_0 S1.out
              have d1' := cell2_1 S1.out
              refine hK _ _ ?_
              clear hK K
              refine wpAny_ready (rs := [0]) (by kernel_rfl) (by simp) ?_
              refine AllReady.cons rfl (fun K hK => ?_) AllReady.nil
              go_simp
              refine hK _ _ ?_
              clear hK K
              refine wpAny_ready (rs := [6]) (by kernel_rfl) (by simp) ?_
              refine AllReady.cons rfl (fun K hK => ?_) AllReady.nil
              go_simp
              refine (HW2.out _ _ D1.out).mono ?_
              rintro e w8 (⟨k2, v', rfl, D8, b8⟩ | ⟨k2, rfl, b8⟩)
              · refine hK _ _ ?_
                clear hK K
                obtain ⟨a8, m8, c8, n8, rfl, _⟩ := D8.form
                have S8 := heap_below S1.out b8
                have d0'' := cell2_0 S8
                have d1'' := cell2_1 S8
                have f0'' := frozen2 S8 0
                have f1'' := frozen2 S8 1
                refine wpAny_ready (rs := [7]) (by kernel_rfl) (by simp) ?_
                refine AllReady.cons rfl (fun K hK => ?_) AllReady.nil
                go_simp
                refine hK _ _ ?_
                clear hK K
                refine wpAny_done (by kernel_rfl) ?_ _
                refine framed_normal ?_
                go_wp2_with fail
                go_meet
                exact ⟨a8, m8, c8, n8, k2, set_two S8, disk_apart (j := 1) (disk_apart (j := 0) D8 S8) (Lib.heap_setCell_same (i := 0) S8 _), two_other (by omega) (heap_below V1.out.1 b8), two_other (by omega) (heap_below V1.out.2.1 b8), two_other (by omega) (heap_below V1.out.2.2.1 b8), two_other (by omega) (heap_below V1.out.2.2.2 b8), keep_far (keep_far (cell_below b8 m1) (by show w.heap.size ≠ w2.heap.size; omega)) (by show w.heap.size ≠ w2.heap.size; omega), keep_far (keep_far (cell_below b8 m2) (by show w.heap.size ≠ w2.heap.size; omega)) (by show w.heap.size ≠ w2.heap.size; omega), below_set (below_set (U1.out.trans (b8.mono U1.out.size)) (Nat.le_refl _)) (Nat.le_refl _)⟩
              · refine fun a' hd ht => ?_
                clear hK K
                have hr2 := Lib.hid (hR'.out.trans (compact_f4 hc0.out hg'.out (Int.not_lt.2 hl2.out) e1.out hk1.out e2.out k2))
                have hd' : a'.defers = [{ target := .fn (.func 46) #[], args := #[.pointer (some ⟨w.heap.size + 2 + 2, 0, none⟩)] }] := hd
                show Leaves _ _ a'.tmps _ a'.defers _ _
                rw [hd']
                exact fault_leaves rfl ((ht 6 (by simp)).trans rfl) ((ht 7 (by simp)).trans rfl) ((ht 8 (by simp)).trans rfl) (heap_below V1.out.2.1 b8) (heap_below V1.out.2.2.1 b8) (heap_below V1.out.2.2.2 b8) (U1.out.trans (b8.mono U1.out.size)) (Nat.le_refl _) hr2.out
          case rest =>
            obtain ⟨a8, m8, c8, n8, k2, S8, D8, V1, V2, V3, V4, y1, y2, b8⟩ := hcut
            have hk2 := Lib.hid k2
            have B8 := Lib.hid b8
            have D8' := Lib.hid D8
            have V8 := Lib.hid (And.intro V1 (And.intro V2 (And.intro V3 V4)))
            have S8' := Lib.hid S8
            have d0 := cell2_0 S8
            have d1 := cell2_1 S8
            obtain ⟨r3, h3⟩ : ∃ r, r = writeD r2.1 (s : Int) [183] := ⟨_, rfl⟩
            have HW3 := Lib.hid (fun v W h => write_any13 r2.1 v (s : Int) [183] W h)
            rw [← h3] at HW3
            have e3 := Lib.hid (show r3 = comp3 r2.1 d.1.length (g + 1) by rw [h3, hs'.out, hG1.out]; rfl)
            clear h3 k2 S8 D8 V1 V2 V3 V4 b8
            go_wp2_with fail
            refine (HW3.out _ _ D8'.out).mono ?_
            rintro e w9 (⟨k3, v', rfl, D9, b9⟩ | ⟨k3, rfl, b9⟩)
            · obtain ⟨a9, m9, c9, n9, rfl, _⟩ := D9.form
              have V9 := Lib.hid (And.intro (heap_below V8.out.1 b9) (And.intro (heap_below V8.out.2.1 b9) (And.intro (heap_below V8.out.2.2.1 b9) (heap_below V8.out.2.2.2 b9))))
              have S9 := heap_below S8'.out b9
              have B9 := Lib.hid (B8.out.trans (b9.mono B8.out.size))
              have hk3 := Lib.hid k3
              have y1 := cell_below b9 y1
              have y2 := cell_below b9 y2
              have d0 := cell2_0 S9
              have d1 := cell2_1 S9
              have f0 := frozen2 S9 0
              have f1 := frozen2 S9 1
              go_upto_region 12 with (fail)
              have S9s := set_two (x' := (.slice a9 r3.1.1.length m9)) (y' := (.slice c9 r3.1.2.length n9)) S9
              have D9s := Lib.hid (disk_apart (j := 1) (u := (.slice c9 r3.1.2.length n9)) (disk_apart (j := 0) (u := (.slice a9 r3.1.1.length m9)) D9 S9) (Lib.heap_setCell_same (i := 0) S9 _))
              have V9s := Lib.hid (And.intro (two_other (j := 0) (j' := 1) (u := (.slice a9 r3.1.1.length m9)) (u' := (.slice c9 r3.1.2.length n9)) (b := w.heap.size) (by omega) V9.out.1) (And.intro (two_other (j := 0) (j' := 1) (u := (.slice a9 r3.1.1.length m9)) (u' := (.slice c9 r3.1.2.length n9)) (b := w.heap.size) (by omega) V9.out.2.1) (And.intro (two_other (j := 0) (j' := 1) (u := (.slice a9 r3.1.1.length m9)) (u' := (.slice c9 r3.1.2.length n9)) (b := w.heap.size) (by omega) V9.out.2.2.1) (two_other (j := 0) (j' := 1) (u := (.slice a9 r3.1.1.length m9)) (u' := (.slice c9 r3.1.2.length n9)) (b := w.heap.size) (by omega) V9.out.2.2.2))))
              have B9s := Lib.hid (below_set (j := 1) (u := (.slice c9 r3.1.2.length n9)) (below_set (j := 0) (u := (.slice a9 r3.1.1.length m9)) B9.out (Nat.le_refl _)) (Nat.le_refl _))
              have y1s := keep_far (keep_far y1 (p := ⟨w.heap.size, 0, none⟩) (v := (.slice a9 r3.1.1.length m9)) (show w.heap.size ≠ w2.heap.size by omega)) (p := ⟨w.heap.size, 1, none⟩) (v := (.slice c9 r3.1.2.length n9)) (show w.heap.size ≠ w2.heap.size by omega)
              have y2s := keep_far (keep_far y2 (p := ⟨w.heap.size, 0, none⟩) (v := (.slice a9 r3.1.1.length m9)) (show w.heap.size ≠ w2.heap.size by omega)) (p := ⟨w.heap.size, 1, none⟩) (v := (.slice c9 r3.1.2.length n9)) (show w.heap.size ≠ w2.heap.size by omega)
              generalize (w9.setCell ⟨w.heap.size, 0, none⟩ (.slice a9 r3.1.1.length m9)).setCell ⟨w.heap.size, 1, none⟩ (.slice c9 r3.1.2.length n9) = W9 at *
              clear d0 d1 f0 f1 y1 y2 S9 D9 b9
              have d0 := cell2_0 S9s
              have d1 := cell2_1 S9s
              obtain ⟨r4, h4⟩ : ∃ r, r = cutJ r3.1 (x2, x3) 0 := ⟨_, rfl⟩
              have HX := Lib.hid (fun v W h => JCut_any r3.1 v x2 x3 0 W h)
              rw [← h4] at HX
              have e4 := Lib.hid (show r4 = cutJ r3.1 (regS d.1.length) 0 by rw [hreg'.out]; exact h4)
              clear h4
              go_wp2_with fail
              refine (HX.out _ _ D9s.out).mono ?_
              rintro e w10 ⟨v', rfl, D10, b10⟩
              obtain ⟨a10, m10, c10, n10, rfl, _⟩ := D10.form
              have V10 := Lib.hid (And.intro (heap_below V9s.out.1 b10) (And.intro (heap_below V9s.out.2.1 b10) (And.intro (heap_below V9s.out.2.2.1 b10) (heap_below V9s.out.2.2.2 b10))))
              have S10 := heap_below S9s b10
              have B10 := Lib.hid (B9s.out.trans (b10.mono B9s.out.size))
              clear d0 d1 y1s y2s S9s D9s V9s B9s b10
              have d0 := cell2_0 S10
              have d1 := cell2_1 S10
              have f0 := frozen2 S10 0
              have f1 := frozen2 S10 1
              by_cases hz : r4.2 = 0
              · have hr2 := Lib.hid (hR'.out.trans (compact_done hc0.out hg'.out (Int.not_lt.2 hl2.out) e1.out hk1.out e2.out hk2.out e3.out hk3.out e4.out hz))
                rw [hz]
                clear hz
                go_upto_region 13 with (fail)
                have S11 := set_two (x' := (.slice a10 r4.1.1.length m10)) (y' := (.slice c10 r4.1.2.length n10)) S10
                have D11 := Lib.hid (disk_apart (j := 1) (u := (.slice c10 r4.1.2.length n10)) (disk_apart (j := 0) (u := (.slice a10 r4.1.1.length m10)) D10 S10) (Lib.heap_setCell_same (i := 0) S10 _))
                have K1 := two_other (j := 0) (j' := 1) (u := (.slice a10 r4.1.1.length m10)) (u' := (.slice c10 r4.1.2.length n10)) (b := w.heap.size) (by omega) V10.out.1
                have K2 := two_other (j := 0) (j' := 1) (u := (.slice a10 r4.1.1.length m10)) (u' := (.slice c10 r4.1.2.length n10)) (b := w.heap.size) (by omega) V10.out.2.1
                have K3 := two_other (j := 0) (j' := 1) (u := (.slice a10 r4.1.1.length m10)) (u' := (.slice c10 r4.1.2.length n10)) (b := w.heap.size) (by omega) V10.out.2.2.1
                have K4 := two_other (j := 0) (j' := 1) (u := (.slice a10 r4.1.1.length m10)) (u' := (.slice c10 r4.1.2.length n10)) (b := w.heap.size) (by omega) V10.out.2.2.2
                have B11 := Lib.hid (below_set (j := 1) (u := (.slice c10 r4.1.2.length n10)) (below_set (j := 0) (u := (.slice a10 r4.1.1.length m10)) B10.out (Nat.le_refl _)) (Nat.le_refl _))
                generalize (w10.setCell ⟨w.heap.size, 0, none⟩ (.slice a10 r4.1.1.length m10)).setCell ⟨w.heap.size, 1, none⟩ (.slice c10 r4.1.2.length n10) = W11 at *
                clear d0 d1 f0 f1 S10 D10
                have d0 := cell2_0 S11
                have d1 := cell2_1 S11
                have z0 := cell2_0 K2
                have z1 := cell2_1 K2
                have z2 := cell2_0 K3
                have z3 := cell2_1 K3
                have z4 := cell1 K4
                have z5 := frozen2 K2 0
                have z6 := frozen2 K2 1
                have z7 := frozen2 K3 0
                have z8 := frozen2 K3 1
                have z9 := frozen1 K4
                go_wp2_with fail
                refine (HM.out _).mono ?_
                rintro e w12 ⟨rfl, rfl⟩
                have N2 := no_str K2 (by simp)
                have N3 := no_str K3 (by simp)
                have N4 := no_str K4 (by simp)
                have NN := Lib.hid (And.intro N2 (And.intro N3 N4))
                have KK := Lib.hid (And.intro K2 (And.intro K3 K4))
                clear K1 K2 K3 K4 N2 N3 N4 S11 HO HF HW1 HW2 HW3 HX HFo HC HS
                go_wp2
                obtain ⟨K2, K3, K4⟩ := KK.out
                obtain ⟨N2, N3, N4⟩ := NN.out
                have h23 : w.heap.size + 2 ≠ w.heap.size + 2 + 1 := by omega
                have h24 : w.heap.size + 2 ≠ w.heap.size + 2 + 2 := by omega
                have h32 : w.heap.size + 2 + 1 ≠ w.heap.size + 2 := by omega
                have h34 : w.heap.size + 2 + 1 ≠ w.heap.size + 2 + 2 := by omega
                have h42 : w.heap.size + 2 + 2 ≠ w.heap.size + 2 := by omega
                have h43 : w.heap.size + 2 + 2 ≠ w.heap.size + 2 + 1 := by omega
                have g2 : w.heap.size ≤ w.heap.size + 2 := by omega
                have g3 : w.heap.size ≤ w.heap.size + 2 + 1 := by omega
                have g4 : w.heap.size ≤ w.heap.size + 2 + 2 := by omega
                have F2 := other_set (j := 0) (other_set (j := 1) (other_set (j := 0) (set_two (x' := (.slice a10 r4.1.1.length m10)) (y' := (.slice c10 r4.1.2.length n10)) K2) h23 (.int .u64 (G : Int))) h23 (.int .i64 0)) h24 (.int .i64 0)
                have F3 := other_set (j := 0) (set_two (x' := .int .u64 (G : Int)) (y' := .int .i64 0) (other_set (j := 1) (other_set (j := 0) K3 h32 (.slice a10 r4.1.1.length m10)) h32 (.slice c10 r4.1.2.length n10))) h34 (.int .i64 0)
                have F4 := Lib.heap_setCell_same (i := 0) (other_set (j := 1) (other_set (j := 0) (other_set (j := 1) (other_set (j := 0) K4 h42 (.slice a10 r4.1.1.length m10)) h42 (.slice c10 r4.1.2.length n10)) h43 (.int .u64 (G : Int))) h43 (.int .i64 0)) (.int .i64 0)
                have D := disk_aside (j := 0) (u := .int .i64 0) (disk_aside (j := 1) (u := .int .i64 0) (disk_aside (j := 0) (u := .int .u64 (G : Int)) (disk_aside (j := 1) (u := (.slice c10 r4.1.2.length n10)) (disk_aside (j := 0) (u := (.slice a10 r4.1.1.length m10)) D11.out N2) (nostr_set N2 (by simp))) (nostr_set (nostr_set N3 (by simp)) (by simp))) (nostr_set (nostr_set (nostr_set N3 (by simp)) (by simp)) (by simp))) (nostr_set (nostr_set (nostr_set (nostr_set N4 (by simp)) (by simp)) (by simp)) (by simp))
                have hR3 : R = (r4.1, (G, 0), 0) := by rw [hr2.out, hG1.out]
                subst hR3
                exact done_leaves rfl rfl rfl rfl F2 F3 F4 (below_set (below_set (below_set (below_set (below_set B11.out g2) g2) g3) g3) g4) D
              · have hr2 := Lib.hid (hR'.out.trans (compact_f6 hc0.out hg'.out (Int.not_lt.2 hl2.out) e1.out hk1.out e2.out hk2.out e3.out hk3.out e4.out hz))
                obtain ⟨k, hk⟩ : ∃ k, k = r4.2 := ⟨_, rfl⟩
                rw [← hk] at hz hr2 ⊢
                clear hk
                go_wp2_with fail
                refine (HF.out k hz _).mono ?_
                rintro e w12 ⟨rfl, rfl⟩
                go_wp2
                exact fault_leaves rfl rfl rfl rfl (two_other (by omega) V10.out.2.1) (two_other (by omega) V10.out.2.2.1) (two_other (by omega) V10.out.2.2.2) (below_set (below_set B10.out (Nat.le_refl _)) (Nat.le_refl _)) (Nat.le_refl _) hr2.out
            · have hr2 := Lib.hid (hR'.out.trans (compact_f5 hc0.out hg'.out (Int.not_lt.2 hl2.out) e1.out hk1.out e2.out hk2.out e3.out k3))
              clear d0 d1 y1 y2
              go_wp2
              exact fault_leaves rfl rfl rfl rfl (heap_below V8.out.2.1 b9) (heap_below V8.out.2.2.1 b9) (heap_below V8.out.2.2.2 b9) (B8.out.trans (b9.mono B8.out.size)) (Nat.le_refl _) hr2.out
          -- END 10
        · have hr2 := Lib.hid (hR'.out.trans (compact_f3 hc0.out hg'.out (Int.not_lt.2 hl2.out) e1.out k1))
          have Q6 := Lib.hid (And.intro (heap_below Q5.out.2.2.1 b6) (And.intro (heap_below Q5.out.2.2.2.1 b6) (heap_below Q5.out.2.2.2.2 b6)))
          have B6 := Lib.hid (B5.out.trans (b6.mono B5.out.size))
          go_wp2
          exact fault_leaves rfl rfl rfl rfl Q6.out.1 Q6.out.2.1 Q6.out.2.2 B6.out (Nat.le_refl _) hr2.out
  · have B2 := Lib.hid (hB.out.trans (b2.mono hB.out.size))
    have hr2 := hR'.out.trans (compact_f0 (by rw [← hC'.out]; exact ho))
    rw [← hC'.out] at hr2
    have hr3 := Lib.hid hr2
    have k22 := heap_below k2' b2
    have k32 := heap_below k3' b2
    have k42 := heap_below k4 b2
    clear c0 c1 l0 l1 hr2
    go_wp2
    exact fault_leaves rfl rfl rfl rfl k22 k32 k42 B2.out (Nat.le_refl _) hr3.out
end Go.Proofs.YtmfbkelhegdmpaaGreatDoor
