/- The walk of Cut, chapter 12 (journal). -/
import Derived.Test.YtmfbkelhegdmpaaGreatDoorJournalM
import Derived.Test.YtmfbkelhegdmpaaGreatDoorDiskY
namespace Go.Proofs.YtmfbkelhegdmpaaGreatDoor
open Go.RowKit Disk11 Journal12 Sum2

theorem cut_cases (d : Dev) (f b p : Int) :
    (placedJ d (f, b) p ≠ 0 ∧ cutJ d (f, b) p = (none0, placedJ d (f, b) p)) ∨ (placedJ d (f, b) p = 0 ∧ p = 64 * b ∧ cutJ d (f, b) p = (d, 0)) ∨
    (placedJ d (f, b) p = 0 ∧ p ≠ 64 * b ∧ cutJ d (f, b) p = writeD d (64 * f + p) (List.replicate (64 * b - p).toNat 0)) := by
  unfold cutJ
  by_cases h : placedJ d (f, b) p = 0
  · by_cases h2 : p = 64 * b
    · exact .inr (.inl ⟨h, h2, by rw [h, if_neg (by simp), if_pos h2]⟩)
    · exact .inr (.inr ⟨h, h2, by rw [h, if_neg (by simp), if_neg h2]⟩)
  · exact .inl ⟨h, by rw [if_pos h]⟩
theorem repeat_zero : ∀ (n : Nat), Lib.repeatL [(0 : UInt8)] n = List.replicate n 0
  | 0 => rfl
  | n + 1 => by
    show [(0 : UInt8)] ++ Lib.repeatL [(0 : UInt8)] n = _
    rw [repeat_zero n, List.replicate_succ]; rfl
def CutPost (w : World) (r : Dev × Nat) (e : Ending) (w' : World) : Prop := ∃ v', e = .returned (.tuple #[v', .int .i64 (r.2 : Nat)]) ∧ DiskIs w' r.1 v' ∧ Below w.heap.size w w'

set_option maxHeartbeats 8000000 in
set_option maxRecDepth 100000 in
theorem JCut_any (d : Dev) (v : Value) (f b p : Int) (w : World) (h : DiskIs w d v) :
    Calls Tryz.prog 56 #[v, .agg #[.int .i64 f, .int .i64 b], .int .i64 p] w (CutPost w (cutJ d (f, b) p)) := by
  have HC := Lib.hid (fun W h => placed_any d v f b p W h)
  have hD := Lib.hid h
  have hcs := cut_cases d f b p
  have hrg : placedJ d (f, b) p = 0 → Disk11.Good d ∧ ∃ f' b' q : Nat, f = (f' : Int) ∧ b = (b' : Int) ∧ p = (q : Int) ∧ f' + b' ≤ d.1.length ∧ q ≤ 64 * b' := fun h => by
    obtain ⟨hg, f', b', q, e1, rfl, hb, hf, hq⟩ := placedJ_ok h
    simp only [Prod.mk.injEq] at e1
    exact ⟨hg, f', b', q, e1.1, e1.2, rfl, hf, hq⟩
  obtain ⟨r, hr⟩ : ∃ r, r = cutJ d (f, b) p := ⟨_, rfl⟩
  rw [← hr] at hcs ⊢
  obtain ⟨pl, hpl⟩ : ∃ pl, pl = placedJ d (f, b) p := ⟨_, rfl⟩
  rw [← hpl] at hcs hrg HC
  clear hr hpl
  obtain ⟨ab, cb, ac, cc, rfl, _, _, hbc, hcc⟩ := h.form
  clear h
  obtain ⟨k1, k2, k3x, _, hbl⟩ := alloc3 w (.cells #[.slice ab d.1.length cb, .slice ac d.2.length cc] 29) (.cells #[.int .i64 f, .int .i64 b] 65) (.cells #[.slice none 0 0, .slice none 0 0] 29)
  have k3 := show _[w.heap.size + 1 + 1]? = _ from k3x
  clear k3x hbc hcc
  go_enter Tryz.func56, Tryz.ntmps56
  go_wp2_with fail
  refine (HC.out _ (hD.out.below hbl)).mono ?_
  rintro e w1 ⟨rfl, b1⟩
  have k1' := heap_below k1 b1
  have k2' := heap_below k2 b1
  have k3' := heap_below k3 b1
  have hb1 := hbl.trans (b1.mono hbl.size)
  have c0 := cell2_0 k1'
  have c1 := cell2_1 k1'
  have r0 := cell2_0 k2'
  have r1 := cell2_1 k2'
  have z0 := cell2_0 k3'
  have z1 := cell2_1 k3'
  have f0 := frozen2 k3' 0
  have f1 := frozen2 k3' 1
  clear k1 k2 k3 hbl b1
  rcases hcs with ⟨h1, hr⟩ | ⟨h1, h2, hr⟩ | ⟨h1, h2, hr⟩
  · have h0' : ((pl : Int) == 0) = false := by simp; exact h1
    clear h1 hrg
    have hP : CutPost w r (.returned (.tuple #[.agg #[.slice none 0 0, .slice none 0 0], .int .i64 (pl : Nat)])) ((w1.setCell ⟨w.heap.size + 1 + 1, 0, none⟩ (.slice none 0 0)).setCell ⟨w.heap.size + 1 + 1, 1, none⟩ (.slice none 0 0)) := by
      rw [hr]; exact ⟨_, rfl, DiskIs.none _, below_set (below_set hb1 (by omega)) (by omega)⟩
    have hP' := Lib.hid hP
    clear hP
    go_wp2
    refine bodyPost_ret (results_cell_tmp rfl _ _ (w.heap.size + 1 + 1) _ _ _ _ rfl (set_two k3') Tryz.underlying29 rfl (by kernel_rfl)) rfl ?_
    exact hP'.out
  all_goals subst h1
  all_goals
    obtain ⟨hg, f', b', q, rfl, rfl, rfl, hf, hq⟩ := hrg rfl
    have hdl := hg.2.1
    have hdc := hg.2.2.2.1
    have HL := Lib.hid (fun W => length_any (f' : Int) (b' : Int) W (by omega) (by omega))
    have hrh := Lib.hid hr
    clear hrg hr
  · have h2' : ((q : Int) == 64 * (b' : Int)) = true := by simp; exact h2
    clear h2
    go_wp2_with fail
    refine (HL.out _).mono ?_
    rintro e w2 ⟨rfl, b2⟩
    have k12 := heap_below k1' b2
    have k32 := heap_below k3' b2
    have hb2 := hb1.trans (b2.mono hb1.size)
    have hd2 := hD.out.below hb2
    clear c0 c1 r0 r1 z0 z1 f0 f1 k1' k2' k3' hb1 b2
    have hw2 : w.heap.size + 1 + 1 < w2.heap.size := (Array.getElem?_eq_some_iff.1 k32).1
    obtain ⟨vb, vc, hv, hrb, hrc⟩ := hd2
    simp only [Value.agg.injEq, Array.mk.injEq, List.cons.injEq, and_true] at hv
    obtain ⟨rfl, rfl⟩ := hv
    have c0 := cell2_0 k12
    have c1 := cell2_1 k12
    have m0 := World.new_ne _ _ c0
    have m1 := World.new_ne _ _ c1
    have A1 : (w2.alloc (.cells #[] 9)).drew.heap[w2.heap.size]? = some (.cells #[] 9) := World.alloc_heap_new w2 _
    have A2 : ((w2.alloc (.cells #[] 9)).alloc (.cells #[] 49)).drew.heap[w2.heap.size]? = some (.cells #[] 9) := (alloc2 w2 _ _).1
    have A2' : ((w2.alloc (.cells #[] 9)).alloc (.cells #[] 49)).drew.heap[w2.heap.size + 1]? = some (.cells #[] 49) := (alloc2 w2 _ _).2.1
    have A3 : ((w2.alloc (.cells #[] 49)).alloc (.cells #[] 9)).drew.heap[w2.heap.size + 1]? = some (.cells #[] 9) := (alloc2 w2 _ _).2.1
    have A3' : ((w2.alloc (.cells #[] 49)).alloc (.cells #[] 9)).drew.heap[w2.heap.size]? = some (.cells #[] 49) := (alloc2 w2 _ _).1
    have B1 : Below w2.heap.size w2 (w2.alloc (.cells #[] 9)).drew := (Go.Joins.below_alloc1 w2 _).drew
    have B2 : Below w2.heap.size w2 ((w2.alloc (.cells #[] 9)).alloc (.cells #[] 49)).drew := (Go.Joins.below_alloc2 w2 _ _).drew
    have B3 : Below w2.heap.size w2 ((w2.alloc (.cells #[] 49)).alloc (.cells #[] 9)).drew := (Go.Joins.below_alloc2 w2 _ _).drew
    have v1 := cell_below (Go.Joins.below_alloc1 w2 (.cells #[] 49)) c0
    have v2 := cell_below (Go.Joins.below_alloc1 w2 (.cells #[] 49)) c1
    have s1 := cell_below (Go.Joins.below_alloc1 w2 (.cells #[] 9)) c0
    have s2 := cell_below (Go.Joins.below_alloc1 w2 (.cells #[] 9)) c1
    have hA := Lib.hid (And.intro A1 (And.intro A2 (And.intro A2' (And.intro A3 A3'))))
    have hB := Lib.hid (And.intro B1 (And.intro B2 B3))
    have hK := Lib.hid (And.intro k12 k32)
    have hRB := Lib.hid hrb
    have hRC := Lib.hid hrc
    have hE := Lib.hid (And.intro v1 v2)
    have hF := Lib.hid (And.intro s1 s2)
    have hb2' := Lib.hid hb2
    clear A1 A2 A2' A3 A3' B1 B2 B3 k12 k32 hrb hrc v1 v2 s1 s2 hb2
    go_upto_region 5 with (fail)
    go_region_held3 (fun V => V.cell? ⟨w.heap.size, 0, none⟩ = some (.slice ab d.1.length cb) ∧ V.cell? ⟨w.heap.size, 1, none⟩ = some (.slice ac d.2.length cc))
      (first | exact ⟨c0, c1⟩ | exact hE.out | exact hF.out | exact ⟨cell_below (Go.Joins.below_alloc1 _ _) hE.out.1, cell_below (Go.Joins.below_alloc1 _ _) hE.out.2⟩ | exact ⟨cell_below (Go.Joins.below_alloc1 _ _) hF.out.1, cell_below (Go.Joins.below_alloc1 _ _) hF.out.2⟩ | exact ⟨y0, y1⟩ | exact ⟨cell_below (Go.Joins.below_alloc1 _ _) y0, cell_below (Go.Joins.below_alloc1 _ _) y1⟩ | exact ⟨x0, x1⟩ | exact ⟨q0, q1⟩ | go_keep)
      (first
        | (refine step_app_row rfl infoStr rfl (by decide) Tryz.underlying26 rfl w2.heap.size rfl (by first | exact hA.out.1 | exact hA.out.2.1 | exact hA.out.2.2.2.1) (by omega) rfl (hRB.out.below (by first | exact hB.out.1 | exact hB.out.2.1 | exact hB.out.2.2)) (strVals_one d.1) (by unfold maxLen; omega) (by omega) (by simp only [World.size_alloc, World.size_drew]; omega) ?_; intro ad1 cp1 w5 o1 b1 g1
           have bw : Below w2.heap.size w2 w5 := (by first | exact hB.out.1.trans b1 | exact hB.out.2.1.trans b1 | exact hB.out.2.2.trans b1)
           have y0 := cell_below bw c0
           have y1 := cell_below bw c1
           first
             | have mb := Lib.hid ((g1.block _ (Array.getElem?_eq_some_iff.1 hA.out.2.2.1).1 (by simp)).trans hA.out.2.2.1)
             | have mb := Lib.hid ((g1.block _ (Array.getElem?_eq_some_iff.1 hA.out.2.2.2.2).1 (by simp)).trans hA.out.2.2.2.2)
             | have mb := Lib.hid True.intro)
        | (refine step_app_row rfl infoWr rfl (by decide) Tryz.underlying27 rfl w2.heap.size rfl (by first | exact World.alloc_heap_new w5 _ | exact mb.out) (by first | omega | (have := b1.size; simp at this; omega)) rfl (hRC.out.below (by first | exact bw | exact bw.alloc bw.size _)) (wrVals_one d.2) (by unfold maxLen; omega) (by omega) (by have := b1.size; simp at this ⊢; omega) ?_; intro ad2 cp2 w6 o2 b2 g2
           have bw2 : Below w2.heap.size w2 w6 := (by first | exact bw.trans b2 | exact (bw.alloc bw.size _).trans b2)
           have k36 := heap_below hK.out.2 bw2
           have x0 := cell_below bw2 c0
           have x1 := cell_below bw2 c1
           have q0 := cell_far2 (g := w.heap.size + 1 + 1) (j := 0) (j' := 1) (u := .slice ad1 d.1.length cp1) (u' := .slice ad2 d.2.length cp2) x0 (by show w.heap.size ≠ _; omega)
           have q1 := cell_far2 (g := w.heap.size + 1 + 1) (j := 0) (j' := 1) (u := .slice ad1 d.1.length cp1) (u' := .slice ad2 d.2.length cp2) x1 (by show w.heap.size ≠ _; omega)
           have e0 := cell2_0 k36
           have e1 := cell2_1 k36
           have e2 := frozen2 k36 0
           have e3 := frozen2 k36 1
           have o1' := (by first | exact own_tag (own_below o1 (Go.Joins.below_alloc1 w5 _)) g2 (World.alloc_heap_new w5 _) (by decide) | exact own_tag o1 g2 mb.out (by decide) : w6.ownsRow w2.heap.size 9 1 (.slice ad1 d.1.length cp1) d.1.length (strVals d.1))))
    all_goals
      have hb6 := hb2'.out.trans (bw2.mono hb2'.out.size)
      have l1 := own_set (b := w.heap.size + 1 + 1) (j := 1) (u := .slice ad2 d.2.length cp2) (own_set (b := w.heap.size + 1 + 1) (j := 0) (u := .slice ad1 d.1.length cp1) o1' (by omega)) (by omega)
      have l2 := own_set (b := w.heap.size + 1 + 1) (j := 1) (u := .slice ad2 d.2.length cp2) (own_set (b := w.heap.size + 1 + 1) (j := 0) (u := .slice ad1 d.1.length cp1) o2 (by omega)) (by omega)
      have hP : CutPost w r (.returned (.tuple #[.agg #[.slice ad1 d.1.length cp1, .slice ad2 d.2.length cp2], .int .i64 0])) ((w6.setCell ⟨w.heap.size + 1 + 1, 0, none⟩ (.slice ad1 d.1.length cp1)).setCell ⟨w.heap.size + 1 + 1, 1, none⟩ (.slice ad2 d.2.length cp2)) := by
        rw [hrh.out]
        exact ⟨_, rfl, ⟨_, _, rfl, Row.of_own l1, Row.of_own l2⟩, below_set (below_set hb6 (by omega)) (by omega)⟩
      have hP' := Lib.hid hP
      clear hP l1 l2
      go_wp2
      refine bodyPost_ret (results_cell_tmp rfl _ _ (w.heap.size + 1 + 1) _ _ _ _ rfl (set_two k36) Tryz.underlying29 rfl (by kernel_rfl)) rfl ?_
      exact hP'.out
  · have h2' : ((q : Int) == 64 * (b' : Int)) = false := by simp; exact h2
    have hq2 : q < 64 * b' := by omega
    obtain ⟨n, hn⟩ : ∃ n : Nat, n = 64 * b' - q := ⟨_, rfl⟩
    have hnq : 64 * (b' : Int) - (q : Int) = (n : Int) := by omega
    have hn2 : n ≤ 262144 := by omega
    have HZ := Lib.hid (fun W => Tryz.strings_Repeat ⟨#[0]⟩ n W (by omega) (by show 1 * n ≤ _; omega))
    have hrep : Lib.repeatL (⟨#[0]⟩ : ByteArray).data.toList n = List.replicate n 0 := repeat_zero n
    rw [hrep] at HZ
    have HW := Lib.hid (fun v W h => (Write_any d v (64 * (f' : Int) + (q : Int)) (List.replicate n 0) W h).mono (fun _ _ => as_diskN))
    have hrq := hrh.out
    rw [show (64 * (b' : Int) - (q : Int)).toNat = n by omega] at hrq
    obtain ⟨u, hu⟩ : ∃ u, u = writeD d (64 * (f' : Int) + (q : Int)) (List.replicate n 0) := ⟨_, rfl⟩
    rw [← hu] at HW hrq
    obtain ⟨ud, uk⟩ := u
    dsimp only at HW hrq
    obtain ⟨F, hF⟩ : ∃ F, F = List.replicate n (0 : UInt8) := ⟨_, rfl⟩
    rw [← hF] at HW HZ
    have hr' := Lib.hid hrq
    have wr1 : IntKind.i64.wrap (64 * (f' : Int)) = 64 * (f' : Int) := by rw [IntKind.wrap_i64]; omega
    have wr2 : IntKind.i64.wrap (64 * (f' : Int) + (q : Int)) = 64 * (f' : Int) + (q : Int) := by rw [IntKind.wrap_i64]; omega
    have wr3 : IntKind.i64.wrap (64 * (b' : Int) - (q : Int)) = (n : Int) := by rw [IntKind.wrap_i64]; omega
    clear h2 hrq hu hF hrep hrh hn hnq
    go_wp2_with fail
    refine (HL.out _).mono ?_
    rintro e w2 ⟨rfl, b2⟩
    have k12 := heap_below k1' b2
    have k22 := heap_below k2' b2
    have k32 := heap_below k3' b2
    have hb2 := hb1.trans (b2.mono hb1.size)
    clear c0 c1 r0 r1 z0 z1 f0 f1 k1' k2' k3' hb1 b2
    have hw2 : w.heap.size + 1 + 1 < w2.heap.size := (Array.getElem?_eq_some_iff.1 k32).1
    have c0 := cell2_0 k12
    have c1 := cell2_1 k12
    have r0 := cell2_0 k22
    have r1 := cell2_1 k22
    have B := Lib.hid hb2.drew
    have k32d := Lib.hid (show w2.drew.heap[w.heap.size + 1 + 1]? = _ from k32)
    clear hb2 k12 k22 k32
    go_upto_region 6 with (fail)
    go_region_held3 (fun V => V.cell? ⟨w.heap.size, 0, none⟩ = some (.slice ab d.1.length cb) ∧ V.cell? ⟨w.heap.size, 1, none⟩ = some (.slice ac d.2.length cc) ∧ V.cell? ⟨w.heap.size + 1, 0, none⟩ = some (.int .i64 (f' : Int)) ∧ V.cell? ⟨w.heap.size + 1, 1, none⟩ = some (.int .i64 (b' : Int)))
      (first | exact ⟨c0, c1, r0, r1⟩ | exact ⟨o0, o1, o2, o3⟩ | exact ⟨p0, p1, p2, p3⟩ | exact ⟨s0, s1, s2, s3⟩ | exact ⟨q0, q1, q2, q3⟩ | go_keep)
      (first
        | (go_at_call 99; refine (HL.out _).mono ?_; rintro e w5 ⟨rfl, b5⟩
           have o0 := cell_below b5 (show w2.drew.cell? _ = _ from c0); have o1 := cell_below b5 (show w2.drew.cell? _ = _ from c1); have o2 := cell_below b5 (show w2.drew.cell? _ = _ from r0); have o3 := cell_below b5 (show w2.drew.cell? _ = _ from r1)
           have B5 := Lib.hid (B.out.trans (b5.mono B.out.size))
           have k35 := Lib.hid (heap_below k32d.out b5))
        | (go_at_call 100; refine (HZ.out _).mono ?_; rintro e w6 ⟨rfl, b6⟩
           have p0 := cell_below b6 o0; have p1 := cell_below b6 o1; have p2 := cell_below b6 o2; have p3 := cell_below b6 o3
           have B6 := Lib.hid (B5.out.trans (b6.mono B5.out.size))
           have k36 := Lib.hid (heap_below k35.out b6))
        | (go_at_call 39; refine (HW.out _ _ (hD.out.below B6.out)).mono ?_; rintro e w7 ⟨ab3, nb3, cb3, ac3, nc3, cc3, rfl, xd3, b7⟩
           have s0 := cell_below b7 p0; have s1 := cell_below b7 p1; have s2 := cell_below b7 p2; have s3 := cell_below b7 p3
           have B7 := Lib.hid (B6.out.trans (b7.mono B6.out.size))
           have k37 := heap_below k36.out b7
           have e0 := cell2_0 k37; have e1 := cell2_1 k37; have e2 := frozen2 k37 0; have e3 := frozen2 k37 1
           have q0 := cell_far2 (g := w.heap.size + 1 + 1) (j := 0) (j' := 1) (u := .slice ab3 nb3 cb3) (u' := .slice ac3 nc3 cc3) s0 (by show w.heap.size ≠ _; omega); have q1 := cell_far2 (g := w.heap.size + 1 + 1) (j := 0) (j' := 1) (u := .slice ab3 nb3 cb3) (u' := .slice ac3 nc3 cc3) s1 (by show w.heap.size ≠ _; omega)
           have q2 := cell_far2 (g := w.heap.size + 1 + 1) (j := 0) (j' := 1) (u := .slice ab3 nb3 cb3) (u' := .slice ac3 nc3 cc3) s2 (by show w.heap.size + 1 ≠ _; omega); have q3 := cell_far2 (g := w.heap.size + 1 + 1) (j := 0) (j' := 1) (u := .slice ab3 nb3 cb3) (u' := .slice ac3 nc3 cc3) s3 (by show w.heap.size + 1 ≠ _; omega)))
    all_goals
      have hP : CutPost w r (.returned (.tuple #[.agg #[.slice ab3 nb3 cb3, .slice ac3 nc3 cc3], .int .i64 (uk : Int)])) ((w7.setCell ⟨w.heap.size + 1 + 1, 0, none⟩ (.slice ab3 nb3 cb3)).setCell ⟨w.heap.size + 1 + 1, 1, none⟩ (.slice ac3 nc3 cc3)) := by
        rw [hr'.out]
        exact ⟨_, rfl, disk_apart (disk_apart xd3 k37) (Lib.heap_setCell_same (i := 0) k37 _), below_set (below_set B7.out (by omega)) (by omega)⟩
      have hP' := Lib.hid hP
      clear hP
      go_wp2
      refine bodyPost_ret (results_cell_tmp rfl _ _ (w.heap.size + 1 + 1) _ _ _ _ rfl (set_two k37) Tryz.underlying29 rfl (by kernel_rfl)) rfl ?_
      exact hP'.out
end Go.Proofs.YtmfbkelhegdmpaaGreatDoor
