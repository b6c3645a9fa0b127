/- The walk of the reference's Cut, chapter 12 (journal). -/
import Derived.Test.YtmfbkelhegdmpaaGreatDoorJournalP
import Derived.Test.YtmfbkelhegdmpaaGreatDoorDiskMU
namespace Go.Proofs.YtmfbkelhegdmpaaGreatDoor
open Go.RowKit Disk11 Journal12 Sum2

theorem writeD_none (d : Dev) (p : Int) (x : List UInt8) : (writeD d p x).2 ≠ 0 → (writeD d p x).1 = none0 := by
  unfold writeD
  split
  · intro _; rfl
  · split
    · intro _; rfl
    · split
      · intro _; rfl
      · intro h; exact absurd rfl h
set_option maxHeartbeats 8000000 in
set_option maxRecDepth 100000 in
theorem RJCut_any (d : Dev) (v : Value) (f b p : Int) (w : World) (h : DiskIs w d v) :
    Calls Tryz.prog 64 #[v, .agg #[.int .i64 f, .int .i64 b], .int .i64 p] w (CutPost w (cutJ d (f, b) p)) := by
  have HC := Lib.hid (fun W h => Rplaced_any d v f b p W h)
  have hD := Lib.hid h
  have hcs := cut_cases d f b p
  have hrg : placedJ d (f, b) p = 0 → Disk11.Good d ∧ ∃ f' b' q : Nat, f = (f' : Int) ∧ b = (b' : Int) ∧ p = (q : Int) ∧ f' + b' ≤ d.1.length ∧ q ≤ 64 * b' := fun h => by
    obtain ⟨hg, f', b', q, e1, rfl, hb, hf, hq⟩ := placedJ_ok h
    simp only [Prod.mk.injEq] at e1
    exact ⟨hg, f', b', q, e1.1, e1.2, rfl, hf, hq⟩
  obtain ⟨r, hr⟩ : ∃ r, r = cutJ d (f, b) p := ⟨_, rfl⟩
  rw [← hr] at hcs ⊢
  obtain ⟨pl, hpl⟩ : ∃ pl, pl = placedJ d (f, b) p := ⟨_, rfl⟩
  rw [← hpl] at hcs hrg HC
  clear hr hpl
  obtain ⟨ab, cb, ac, cc, rfl, _, _, hbc, hcc⟩ := h.form
  clear h
  obtain ⟨k1, k2, k3x, _, hbl⟩ := alloc3 w (.cells #[.slice ab d.1.length cb, .slice ac d.2.length cc] 29) (.cells #[.int .i64 f, .int .i64 b] 65) (.cells #[.slice none 0 0, .slice none 0 0] 29)
  have k3 := show _[w.heap.size + 1 + 1]? = _ from k3x
  clear k3x hbc hcc
  go_enter Tryz.func64, Tryz.ntmps64
  go_wp2_with fail
  refine (HC.out _ (hD.out.below hbl)).mono ?_
  rintro e w1 ⟨rfl, b1⟩
  have k1' := heap_below k1 b1
  have k2' := heap_below k2 b1
  have k3' := heap_below k3 b1
  have hb1 := hbl.trans (b1.mono hbl.size)
  have c0 := cell2_0 k1'
  have c1 := cell2_1 k1'
  have r0 := cell2_0 k2'
  have r1 := cell2_1 k2'
  have z0 := cell2_0 k3'
  have z1 := cell2_1 k3'
  have f0 := frozen2 k3' 0
  have f1 := frozen2 k3' 1
  clear k1 k2 k3 hbl b1
  rcases hcs with ⟨h1, hr⟩ | ⟨h1, h2, hr⟩ | ⟨h1, h2, hr⟩
  · have h0' : ((pl : Int) == 0) = false := by simp; exact h1
    clear h1 hrg
    have hP : CutPost w r (.returned (.tuple #[.agg #[.slice none 0 0, .slice none 0 0], .int .i64 (pl : Nat)])) ((w1.setCell ⟨w.heap.size + 1 + 1, 0, none⟩ (.slice none 0 0)).setCell ⟨w.heap.size + 1 + 1, 1, none⟩ (.slice none 0 0)) := by
      rw [hr]; exact ⟨_, rfl, DiskIs.none _, below_set (below_set hb1 (by omega)) (by omega)⟩
    have hP' := Lib.hid hP
    clear hP
    go_wp2
    refine bodyPost_ret (results_cell_tmp rfl _ _ (w.heap.size + 1 + 1) _ _ _ _ rfl (set_two k3') Tryz.underlying29 rfl (by kernel_rfl)) rfl ?_
    exact hP'.out
  all_goals subst h1
  all_goals
    obtain ⟨hg, f', b', q, rfl, rfl, rfl, hf, hq⟩ := hrg rfl
    have hdl := hg.2.1
    have hdc := hg.2.2.2.1
    have HL := Lib.hid (fun W => Rlength_any (f' : Int) (b' : Int) W (by omega) (by omega))
    have hrh := Lib.hid hr
    clear hrg hr
  · have h2' : ((q : Int) == 64 * (b' : Int)) = true := by simp; exact h2
    clear h2
    go_wp2_with fail
    refine (HL.out _).mono ?_
    rintro e w2 ⟨rfl, b2⟩
    have k12 := heap_below k1' b2
    have k32 := heap_below k3' b2
    have hb2 := hb1.trans (b2.mono hb1.size)
    have hd2 := hD.out.below hb2
    clear c0 c1 r0 r1 z0 z1 f0 f1 k1' k2' k3' hb1 b2
    have hw2 : w.heap.size + 1 + 1 < w2.heap.size := (Array.getElem?_eq_some_iff.1 k32).1
    have c0 := cell2_0 k12
    have c1 := cell2_1 k12
    have z0 := cell2_0 k32
    have z1 := cell2_1 k32
    have f0 := frozen2 k32 0
    have f1 := frozen2 k32 1
    have hP : CutPost w r (.returned (.tuple #[.agg #[.slice ab d.1.length cb, .slice ac d.2.length cc], .int .i64 0])) ((w2.setCell ⟨w.heap.size + 1 + 1, 0, none⟩ (.slice ab d.1.length cb)).setCell ⟨w.heap.size + 1 + 1, 1, none⟩ (.slice ac d.2.length cc)) := by
      rw [hrh.out]
      exact ⟨_, rfl, disk_apart (disk_apart hd2 k32) (Lib.heap_setCell_same (i := 0) k32 _), below_set (below_set hb2 (by omega)) (by omega)⟩
    have hP' := Lib.hid hP
    clear hP hd2 hrh
    go_wp2
    refine bodyPost_ret (results_cell_tmp rfl _ _ (w.heap.size + 1 + 1) _ _ _ _ rfl (set_two k32) Tryz.underlying29 rfl (by kernel_rfl)) rfl ?_
    exact hP'.out
  · have h2' : ((q : Int) == 64 * (b' : Int)) = false := by simp; exact h2
    have hq2 : q < 64 * b' := by omega
    obtain ⟨n, hn⟩ : ∃ n : Nat, n = 64 * b' - q := ⟨_, rfl⟩
    have hnq : 64 * (b' : Int) - (q : Int) = (n : Int) := by omega
    have hn2 : n ≤ 262144 := by omega
    have HW := Lib.hid (fun v W h => (RWrite_any d v (64 * (f' : Int) + (q : Int)) (List.replicate n 0) W h).mono (fun _ _ => as_diskN))
    have hrq := hrh.out
    rw [show (64 * (b' : Int) - (q : Int)).toNat = n by omega] at hrq
    obtain ⟨u, hu⟩ : ∃ u, u = writeD d (64 * (f' : Int) + (q : Int)) (List.replicate n 0) := ⟨_, rfl⟩
    rw [← hu] at HW hrq
    have hnz : u.2 ≠ 0 → u.1 = none0 := by rw [hu]; exact writeD_none _ _ _
    obtain ⟨ud, uk⟩ := u
    dsimp only at HW hrq hnz
    obtain ⟨F, hF⟩ : ∃ F, F = List.replicate n (0 : UInt8) := ⟨_, rfl⟩
    rw [← hF] at HW
    have hr' := Lib.hid hrq
    have wr1 : IntKind.i64.wrap (64 * (f' : Int)) = 64 * (f' : Int) := by rw [IntKind.wrap_i64]; omega
    have wr2 : IntKind.i64.wrap (64 * (f' : Int) + (q : Int)) = 64 * (f' : Int) + (q : Int) := by rw [IntKind.wrap_i64]; omega
    have wr3 : IntKind.i64.wrap (64 * (b' : Int) - (q : Int)) = (n : Int) := by rw [IntKind.wrap_i64]; omega
    have hF' := Lib.hid hF
    clear h2 hrq hu hF hrh hn hnq
    go_wp2_with fail
    refine (HL.out _).mono ?_
    rintro e w2 ⟨rfl, b2⟩
    have k12 := heap_below k1' b2
    have k22 := heap_below k2' b2
    have k32 := heap_below k3' b2
    have hb2 := hb1.trans (b2.mono hb1.size)
    clear c0 c1 r0 r1 z0 z1 f0 f1 k1' k2' k3' hb1 b2
    have hw2 : w.heap.size + 1 + 1 < w2.heap.size := (Array.getElem?_eq_some_iff.1 k32).1
    have c0 := cell2_0 k12
    have c1 := cell2_1 k12
    have r0 := cell2_0 k22
    have r1 := cell2_1 k22
    have B := Lib.hid hb2.drew
    have k12d := Lib.hid (show w2.drew.heap[w.heap.size]? = _ from k12)
    have k32d := Lib.hid (show w2.drew.heap[w.heap.size + 1 + 1]? = _ from k32)
    clear hb2 k12 k22 k32
    go_upto_region 6 with (fail)
    go_cut [8] from 22 to 37 (fun u W => ∃ (nb3 nc3 cb3 cc3 : Nat) (ab3 ac3 : Option Addr), u = .int .i64 (uk : Int) ∧ W.heap[w.heap.size]? = some (.cells #[.slice ab3 nb3 cb3, .slice ac3 nc3 cc3] 29 (0, 0)) ∧ DiskIs W ud (.agg #[.slice ab3 nb3 cb3, .slice ac3 nc3 cc3]) ∧ W.heap[w.heap.size + 1 + 1]? = some (.cells #[.slice none 0 0, .slice none 0 0] 29 (0, 0)) ∧ Below w.heap.size w W)
    case first =>
      go_region_with (first
        | (go_at_call 108; refine (HL.out _).mono ?_; rintro e w5 ⟨rfl, b5⟩
           have o0 := cell_below b5 (show w2.drew.cell? _ = _ from c0); have o1 := cell_below b5 (show w2.drew.cell? _ = _ from c1); have o2 := cell_below b5 (show w2.drew.cell? _ = _ from r0); have o3 := cell_below b5 (show w2.drew.cell? _ = _ from r1)
           have a5 := Go.Joins.below_alloc1 w5 (.cells (tab n fun _ => .int .u8 0) 5)
           have p0 := cell_below a5 o0; have p1 := cell_below a5 o1; have p2 := cell_below a5 o2; have p3 := cell_below a5 o3
           have hmk := makeU8 n hn2 w5
           have hcv := zero_string n w5
           rw [← hF'.out] at hcv
           have hb5 := B.out.trans (b5.mono B.out.size)
           have B6 := Lib.hid (hb5.trans (a5.mono hb5.size))
           have k15 := Lib.hid (heap_below (heap_below k12d.out b5) a5)
           have k35 := Lib.hid (heap_below (heap_below k32d.out b5) a5)
           clear hb5)
        | (go_at_call 43; refine (HW.out _ _ (hD.out.below B6.out)).mono ?_; rintro e w7 ⟨ab3, nb3, cb3, ac3, nc3, cc3, rfl, xd3, b7⟩
           have B7 := Lib.hid (B6.out.trans (b7.mono B6.out.size))
           have k17 := heap_below k15.out b7; have k37 := heap_below k35.out b7
           have e0 := cell2_0 k17; have e1 := cell2_1 k17; have e2 := frozen2 k17 0; have e3 := frozen2 k17 1))
      all_goals
        go_wp2_with fail
        go_meet
        exact ⟨_, _, _, _, _, _, rfl, set_two k17, disk_apart (disk_apart xd3 k17) (Lib.heap_setCell_same (i := 0) k17 _), two_other (by omega) k37, below_set (below_set B7.out (Nat.le_refl _)) (Nat.le_refl _)⟩
    case rest =>
      obtain ⟨nb3, nc3, cb3, cc3, ab3, ac3, rfl, g3, xd3, k36, hb6⟩ := hcut
      clear k12d k32d c0 c1 r0 r1 B
      have z0 := cell2_0 k36
      have z1 := cell2_1 k36
      have f0 := frozen2 k36 0
      have f1 := frozen2 k36 1
      have y0 := cell2_0 g3
      have y1 := cell2_1 g3
      have hr := Lib.hid hr'.out
      clear hr'
      by_cases hu : uk = 0
      · subst hu
        have hP : CutPost w r (.returned (.tuple #[.agg #[.slice ab3 nb3 cb3, .slice ac3 nc3 cc3], .int .i64 0])) ((wc.setCell ⟨w.heap.size + 1 + 1, 0, none⟩ (.slice ab3 nb3 cb3)).setCell ⟨w.heap.size + 1 + 1, 1, none⟩ (.slice ac3 nc3 cc3)) := by
          rw [hr.out]
          exact ⟨_, rfl, disk_apart (disk_apart xd3 k36) (Lib.heap_setCell_same (i := 0) k36 _), below_set (below_set hb6 (by omega)) (by omega)⟩
        have hP' := Lib.hid hP
        clear hr hP
        go_wp2
        refine bodyPost_ret (results_cell_tmp rfl _ _ (w.heap.size + 1 + 1) _ _ _ _ rfl (set_two k36) Tryz.underlying29 rfl (by kernel_rfl)) rfl ?_
        exact hP'.out
      · have h0' : ((uk : Int) == 0) = false := by simp; exact hu
        have hn0 : ud = none0 := hnz hu
        have hP : CutPost w r (.returned (.tuple #[.agg #[.slice none 0 0, .slice none 0 0], .int .i64 (uk : Int)])) ((wc.setCell ⟨w.heap.size + 1 + 1, 0, none⟩ (.slice none 0 0)).setCell ⟨w.heap.size + 1 + 1, 1, none⟩ (.slice none 0 0)) := by
          rw [hr.out, hn0]
          exact ⟨_, rfl, DiskIs.none _, below_set (below_set hb6 (by omega)) (by omega)⟩
        have hP' := Lib.hid hP
        clear hr hP hu hn0
        go_wp2
        refine bodyPost_ret (results_cell_tmp rfl _ _ (w.heap.size + 1 + 1) _ _ _ _ rfl (set_two k36) Tryz.underlying29 rfl (by kernel_rfl)) rfl ?_
        exact hP'.out
end Go.Proofs.YtmfbkelhegdmpaaGreatDoor
