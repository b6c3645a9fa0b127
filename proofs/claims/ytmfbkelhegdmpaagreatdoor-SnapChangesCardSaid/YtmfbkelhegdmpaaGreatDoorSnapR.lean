/- The walk of the reference's Append, chapter 13 (snap). -/
import Derived.Test.YtmfbkelhegdmpaaGreatDoorSnapQ
namespace Go.Proofs.YtmfbkelhegdmpaaGreatDoor
open Go.RowKit Disk11 Journal12 Sum2

set_option maxHeartbeats 8000000 in
set_option maxRecDepth 100000 in
theorem RAppend_any13 (d : Dev) (v : Value) (g : Nat) (p : Int) (x : List UInt8) (w : World) (hg64 : g < 18446744073709551616) (hx : x.length ≤ 1099511627776) (h : DiskIs w d v) :
    Calls Tryz.prog 22 #[v, logV g p, .string ⟨x.toArray⟩] w (SnapPost w (appendS d (g, p) x)) := by
  have HO := Lib.hid (fun W h => Rcheck_any13 d v g p W h)
  have HP := Lib.hid (fun W => RPut_any13 g hg64 W)
  obtain ⟨C, hC⟩ : ∃ C, C = checkS d (g, p) := ⟨_, rfl⟩
  rw [← hC] at HO
  have hC' := Lib.hid hC
  obtain ⟨R, hR⟩ : ∃ R, R = appendS d (g, p) x := ⟨_, rfl⟩
  rw [← hR]
  have hR' := Lib.hid hR
  obtain ⟨P, hP⟩ : ∃ P, P = putN g := ⟨_, rfl⟩
  have hPl : P.length ≤ 10 := by rw [hP]; exact putN_le g hg64
  obtain ⟨x2, hx2⟩ : ∃ x, x = ((2 * (d.1.length / 4) : Nat) : Int) := ⟨_, rfl⟩
  obtain ⟨x3, hx3⟩ : ∃ x, x = ((d.1.length - 2 * (d.1.length / 4) : Nat) : Int) := ⟨_, rfl⟩
  have HG := Lib.hid (fun (hb : d.1.length ≤ 4096) W => Rregion_any d.1.length hb W)
  have he : logRegV d.1.length = .agg #[.int .i64 ((2 * (d.1.length / 4) : Nat) : Int), .int .i64 ((d.1.length - 2 * (d.1.length / 4) : Nat) : Int)] := rfl
  have hreg : regS d.1.length = (x2, x3) := by rw [hx2, hx3]; rfl
  rw [← hx2, ← hx3] at he
  rw [he] at HG
  rw [← hP] at HP
  obtain ⟨r, hr⟩ : ∃ r, r = appendJ d (x2, x3) p (P ++ x) := ⟨_, rfl⟩
  have HJ := Lib.hid (fun v W h => RJAppend_any d v x2 x3 p (P ++ x) W h (by rw [List.length_append]; omega))
  rw [← hr] at HJ
  have hr' := Lib.hid (show r = appendJ d (regS d.1.length) p (putN g ++ x) by rw [hreg, ← hP]; exact hr)
  have hba := bytes_app P x
  have z1 : (⟨P.toArray⟩ : ByteArray).size = P.length := rfl
  have z2 : (⟨x.toArray⟩ : ByteArray).size = x.length := rfl
  have hadd : ¬ (9223372036854775807 < P.length + x.length) := by omega
  clear hC hR he hx2 hx3 hreg hr hP
  obtain ⟨ab, cb, ac, cc, rfl, _, _, _, _⟩ := h.form
  obtain ⟨WA, hWA⟩ : ∃ WA, (w.alloc (.cells #[.slice ab d.1.length cb, .slice ac d.2.length cc] 29)).alloc (.cells #[.int .u64 (g : Int), .int .i64 p] 32) = WA := ⟨_, rfl⟩
  obtain ⟨k0, k1, hsA, eA⟩ := alloc2 w (.cells #[.slice ab d.1.length cb, .slice ac d.2.length cc] 29) (.cells #[.int .u64 (g : Int), .int .i64 p] 32)
  rw [hWA] at k0 k1 hsA eA
  obtain ⟨k2, k3, _, eB⟩ := alloc2 WA (.cells #[.slice none 0 0, .slice none 0 0] 29) (.cells #[.int .u64 0, .int .i64 0] 32)
  rw [hsA] at k2 k3
  have hB := Lib.hid (eA.trans (eB.mono eA.size))
  have k0' := heap_below k0 eB
  have k1' := heap_below k1 eB
  have h0 := Lib.hid h
  clear h k0 k1 eA eB
  go_enter Tryz.func22, Tryz.ntmps22
  go_upto_region 1 with (fail)
  generalize hW1 : (WA.alloc (.cells #[.slice none 0 0, .slice none 0 0] 29)).alloc (.cells #[.int .u64 0, .int .i64 0] 32) = W1 at *
  clear hW1 hWA hsA
  have c0 := cell2_0 k0'
  have c1 := cell2_1 k0'
  have l0 := cell2_0 k1'
  have l1 := cell2_1 k1'
  go_wp2_with fail
  refine (HO.out _ (h0.out.below hB.out)).mono ?_
  rintro e w2 ⟨rfl, b2⟩
  have B2 := hB.out.trans (b2.mono hB.out.size)
  have k0 := heap_below k0' b2
  have k1 := heap_below k1' b2
  have K2 := heap_below k2 b2
  have K3 := heap_below k3 b2
  clear c0 c1 l0 l1 hB k0' k1' k2 k3 b2 HO
  have hB := Lib.hid B2
  by_cases hc : C = 0
  · have hc0 := hC'.out.symm.trans hc
    have h4 := (check_ok hc0).1.2.1
    have hc0' := Lib.hid hc0
    have lw : w.heap.size + 2 + 1 < w2.heap.size := (Array.getElem?_eq_some_iff.1 K3).1
    rw [hc]
    have HGg := Lib.hid (HG.out h4)
    clear hc hc0 HG B2
    go_upto_region 4 with (fail)
    have c0 := cell2_0 k0
    have c1 := cell2_1 k0
    have l0 := cell2_0 k1
    have l1 := cell2_1 k1
    have HK := Lib.hid (And.intro k1 (And.intro K2 K3))
    clear k0 k1 K2 K3
    have V := Lib.hid (show Below w2.heap.size w2 w2.drew from (Below.refl _ w2).drew)
    go_cut [9, 10, 11] from 20 to 36 (fun e q n W => e = .int .i64 (r.2.2 : Int) ∧ n = .int .i64 r.2.1 ∧ ∃ (gb : Nat) (a1 : Option Addr) (e1 : Nat) (a2 : Option Addr) (e2 : Nat), q = .pointer (some ⟨gb, 0, none⟩) ∧ W.heap[gb]? = some (.cells #[.slice a1 r.1.1.length e1, .slice a2 r.1.2.length e2] 29 (0, 0)) ∧ DiskIs W r.1 (.agg #[.slice a1 r.1.1.length e1, .slice a2 r.1.2.length e2]) ∧ Below w2.heap.size w2 W ∧ w2.heap.size ≤ gb)
    case first =>
      go_region_held3 (fun V => V.cell? ⟨w.heap.size, 0, none⟩ = some (.slice ab d.1.length cb) ∧ V.cell? ⟨w.heap.size, 1, none⟩ = some (.slice ac d.2.length cc) ∧ V.cell? ⟨w.heap.size + 1, 0, none⟩ = some (.int .u64 (g : Int)) ∧ V.cell? ⟨w.heap.size + 1, 1, none⟩ = some (.int .i64 p))
        (first | exact ⟨cell_below V.out c0, cell_below V.out c1, cell_below V.out l0, cell_below V.out l1⟩ | exact ⟨cell_below (V.out.alloc V.out.size _) c0, cell_below (V.out.alloc V.out.size _) c1, cell_below (V.out.alloc V.out.size _) l0, cell_below (V.out.alloc V.out.size _) l1⟩ | exact ⟨keep_far (keep_far (cell_below V.out c0) (by dsimp only; omega)) (by dsimp only; omega), keep_far (keep_far (cell_below V.out c1) (by dsimp only; omega)) (by dsimp only; omega), keep_far (keep_far (cell_below V.out l0) (by dsimp only; omega)) (by dsimp only; omega), keep_far (keep_far (cell_below V.out l1) (by dsimp only; omega)) (by dsimp only; omega)⟩)
        (first
          | (go_at_call 59; refine (HGg.out _).mono ?_; rintro e u ⟨rfl, y⟩
             first
             | (have V := Lib.hid (V.out.trans (y.mono V.out.size))
                try (have N := Lib.hid (heap_below N.out y)))
             | (have hg := V.out.size
                have N := Lib.hid (heap_below (World.alloc_heap_new _ _) y)
                have V := Lib.hid ((V.out.alloc V.out.size _).trans (y.mono (V.out.alloc V.out.size _).size)))
             | (have hg : w2.heap.size ≤ w2.heap.size := Nat.le_refl _
                have N := Lib.hid (heap_below (show (World.alloc w2 (.cells #[.slice none 0 0, .slice none 0 0] 29)).drew.heap[w2.heap.size]? = _ from World.alloc_heap_new w2 (.cells #[.slice none 0 0, .slice none 0 0] 29)) y)
                have V := Lib.hid ((Go.Joins.below_alloc1 w2 (.cells #[.slice none 0 0, .slice none 0 0] 29)).drew.trans (y.mono (Go.Joins.below_alloc1 w2 (.cells #[.slice none 0 0, .slice none 0 0] 29)).drew.size))))
          | (go_at_call 62; refine (HP.out _).mono ?_; rintro e u ⟨rfl, y⟩
             first
             | (have V := Lib.hid (V.out.trans (y.mono V.out.size))
                try (have N := Lib.hid (heap_below N.out y)))
             | (have hg := V.out.size
                have N := Lib.hid (heap_below (World.alloc_heap_new _ _) y)
                have V := Lib.hid ((V.out.alloc V.out.size _).trans (y.mono (V.out.alloc V.out.size _).size)))
             | (have hg : w2.heap.size ≤ w2.heap.size := Nat.le_refl _
                have N := Lib.hid (heap_below (show (World.alloc w2 (.cells #[.slice none 0 0, .slice none 0 0] 29)).drew.heap[w2.heap.size]? = _ from World.alloc_heap_new w2 (.cells #[.slice none 0 0, .slice none 0 0] 29)) y)
                have V := Lib.hid ((Go.Joins.below_alloc1 w2 (.cells #[.slice none 0 0, .slice none 0 0] 29)).drew.trans (y.mono (Go.Joins.below_alloc1 w2 (.cells #[.slice none 0 0, .slice none 0 0] 29)).drew.size))))
          | (go_at_call 68; refine (HJ.out _ _ (by first | exact h0.out.below (hB.out.trans (V.out.mono hB.out.size)) | exact (h0.out.below (hB.out.trans (V.out.mono hB.out.size))).below (Go.Joins.below_alloc1 _ _))).mono ?_; rintro e u ⟨v', rfl, D8, y⟩
             first
             | (have V := Lib.hid (V.out.trans (y.mono V.out.size))
                try (have N := Lib.hid (heap_below N.out y)))
             | (have hg := V.out.size
                have N := Lib.hid (heap_below (World.alloc_heap_new _ _) y)
                have V := Lib.hid ((V.out.alloc V.out.size _).trans (y.mono (V.out.alloc V.out.size _).size)))
             | (have hg : w2.heap.size ≤ w2.heap.size := Nat.le_refl _
                have N := Lib.hid (heap_below (show (World.alloc w2 (.cells #[.slice none 0 0, .slice none 0 0] 29)).drew.heap[w2.heap.size]? = _ from World.alloc_heap_new w2 (.cells #[.slice none 0 0, .slice none 0 0] 29)) y)
                have V := Lib.hid ((Go.Joins.below_alloc1 w2 (.cells #[.slice none 0 0, .slice none 0 0] 29)).drew.trans (y.mono (Go.Joins.below_alloc1 w2 (.cells #[.slice none 0 0, .slice none 0 0] 29)).drew.size)))
             obtain ⟨a8, m8, c8, n8, rfl, _⟩ := D8.form
             try (have n0 := cell2_0 N.out; have n1 := cell2_1 N.out; have n2 := frozen2 N.out 0; have n3 := frozen2 N.out 1)))
      all_goals
        go_wp2_with fail
        go_meet
        first
          | exact ⟨rfl, rfl, _, _, _, _, _, rfl, World.alloc_heap_new _ _, D8.alloc _, V.out.alloc V.out.size _, V.out.size⟩
          | exact ⟨rfl, rfl, _, _, _, _, _, rfl, set_two N.out, disk_apart (j := 1) (disk_apart (j := 0) D8 N.out) (Lib.heap_setCell_same (i := 0) N.out _), below_set (below_set V.out hg) hg, hg⟩
    case rest =>
      obtain ⟨rfl, rfl, gb, a1, e1, a2, e2, rfl, KD, D8, b8, hgb⟩ := hcut
      have K1 := heap_below HK.out.1 b8
      have K2 := heap_below HK.out.2.1 b8
      have K3 := heap_below HK.out.2.2 b8
      have B8 := hB.out.trans (b8.mono hB.out.size)
      clear c0 c1 l0 l1 V HP HJ HGg HK hB b8
      have z3 := cell2_0 K2
      have z4 := cell2_1 K2
      have z5 := cell2_0 K3
      have z6 := cell2_1 K3
      have f0 := frozen2 K2 0
      have f1 := frozen2 K2 1
      have f2 := frozen2 K3 0
      have f3 := frozen2 K3 1
      by_cases hz : r.2.2 = 0
      · have hr2 := Lib.hid (hR'.out.trans (append_done hc0'.out hr'.out hz))
        rw [hz]
        have hk0 : ((0 : Nat) : Int) = 0 := rfl
        rw [hk0]
        clear hz hk0
        have d0 := cell2_0 KD
        have d1 := cell2_1 KD
        have l0 := cell2_0 K1
        have h2d : w.heap.size + 2 ≠ gb := by omega
        have h3d : w.heap.size + 2 + 1 ≠ gb := by omega
        have h21 : w.heap.size + 2 ≠ w.heap.size + 1 := by omega
        have h31 : w.heap.size + 2 + 1 ≠ w.heap.size + 1 := by omega
        have e21 : ¬ (w.heap.size + 1 = w.heap.size) := by omega
        have e31 : ¬ (w.heap.size + 2 = w.heap.size) := by omega
        have KK := Lib.hid (And.intro K2 (And.intro K3 (And.intro D8 B8)))
        have lgb := Lib.hid hgb
        clear K1 K2 K3 KD D8 B8 hgb
        go_upto_region 7 with (fail)
        go_region_held3 (fun W => W.cell? { block := gb, off := 0, spot := none } = some (.slice a1 r.1.1.length e1) ∧ W.cell? { block := gb, off := 1, spot := none } = some (.slice a2 r.1.2.length e2) ∧ W.cell? { block := w.heap.size + 1, off := 0, spot := none } = some (.int .u64 (g : Int))) ((first | (simp only [World.cell?_setCell_far, ne_eq, h2d, h3d, h21, h31, e21, e31, not_false_eq_true, d0, d1, l0, and_self]; done) | go_keep)) (fail)
        all_goals
          go_wp2
          obtain ⟨K2, K3, D8, B8⟩ := KK.out
          exact ret4 (W := World.drew _) (g := g) (z := r.2.1) (k := 0) rfl rfl rfl rfl rfl K2 K3 (by omega) (by simp) (by simp) (by simp) (by simp) B8.drew (by omega) (by omega) (by rw [hr2.out]; exact D8.drew) (by rw [hr2.out]) (by rw [hr2.out]) (by rw [hr2.out])
      · have hr2 := Lib.hid (hR'.out.trans (append_fault2 hc0'.out hr'.out hz))
        obtain ⟨k, hk⟩ : ∃ k, k = r.2.2 := ⟨_, rfl⟩
        rw [← hk] at hz hr2 ⊢
        have hz1 : ((k : Int) != 0) = true := by simp; omega
        clear hk hz
        go_wp2
        exact ret4_none rfl rfl rfl rfl rfl K2 K3 (by omega) (by simp) (by simp) B8 (by omega) (by omega) hr2.out
  · have hc1 : ((C : Int) != 0) = true := by simp; omega
    have hr2 := Lib.hid (hR'.out.trans (append_fault hC'.out hc))
    have z0 := cell2_0 K2
    have z1 := cell2_1 K2
    have z3 := cell2_0 K3
    have z4 := cell2_1 K3
    have f0 := frozen2 K2 0
    have f1 := frozen2 K2 1
    have f2 := frozen2 K3 0
    have f3 := frozen2 K3 1
    clear hc k0 k1
    go_wp2
    exact ret4_none rfl rfl rfl rfl rfl K2 K3 (by omega) (by simp) (by simp) hB.out (by omega) (by omega) hr2.out
end Go.Proofs.YtmfbkelhegdmpaaGreatDoor
