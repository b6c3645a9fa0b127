/- The walk of the program's Append, chapter 13 (snap). -/
import Derived.Test.YtmfbkelhegdmpaaGreatDoorSnapIU
import Derived.Test.YtmfbkelhegdmpaaGreatDoorJournalM
import Derived.Test.YtmfbkelhegdmpaaGreatDoorSnapAK
import Derived.Deep.RegionHeld3
namespace Go.Proofs.YtmfbkelhegdmpaaGreatDoor
open Go.RowKit Disk11 Journal12 Sum2

/-- What Append, Compact and Format answer. -/
def SnapPost (w : World) (r : Dev × LogS × Nat) (e : Ending) (w' : World) : Prop := ∃ v', e = .returned (.tuple #[v', logV r.2.1.1 r.2.1.2, .int .i64 (r.2.2 : Nat)]) ∧ DiskIs w' r.1 v' ∧ Below w.heap.size w w'
theorem append_fault {d : Dev} {l : LogS} {x : List UInt8} {C : Nat} (hC : C = checkS d l) (h : C ≠ 0) : appendS d l x = (none0, (0, 0), C) := by
  unfold appendS; rw [← hC, if_pos h]
theorem append_fault2 {d : Dev} {l : LogS} {x : List UInt8} {r : Dev × Int × Nat} (hC : checkS d l = 0) (hr : r = appendJ d (regS d.1.length) l.2 (putN l.1 ++ x)) (h : r.2.2 ≠ 0) : appendS d l x = (none0, (0, 0), r.2.2) := by
  unfold appendS; rw [hC, if_neg (by simp), ← hr, if_pos h]
theorem append_done {d : Dev} {l : LogS} {x : List UInt8} {r : Dev × Int × Nat} (hC : checkS d l = 0) (hr : r = appendJ d (regS d.1.length) l.2 (putN l.1 ++ x)) (h : r.2.2 = 0) : appendS d l x = (r.1, (l.1, r.2.1), 0) := by
  unfold appendS; rw [hC, if_neg (by simp), ← hr, if_neg (by simp [h])]
theorem keep_far {w : World} {p a : Addr} {v x : Value} (h : w.cell? a = some x) (hne : p.block ≠ a.block) : (w.setCell p v).cell? a = some x := by
  rw [World.cell?_setCell_far _ _ _ _ hne]; exact h
set_option maxHeartbeats 8000000 in
set_option maxRecDepth 100000 in
theorem Append_any13 (d : Dev) (v : Value) (g : Nat) (p : Int) (x : List UInt8) (w : World) (hg64 : g < 18446744073709551616) (hx : x.length ≤ 1099511627776) (h : DiskIs w d v) (ht : Tab w) :
    Calls Tryz.prog 21 #[v, logV g p, .string ⟨x.toArray⟩] w (SnapPost w (appendS d (g, p) x)) := by
  have HO := Lib.hid (fun W h => opened_any d v g p W h)
  have HM := Lib.hid (fun W => must_ok W)
  have HF := Lib.hid (fun k hk W => must_fail k hk W)
  have HP := Lib.hid (fun W => Put_any13 g hg64 W)
  obtain ⟨C, hC⟩ : ∃ C, C = checkS d (g, p) := ⟨_, rfl⟩
  rw [← hC] at HO
  have hC' := Lib.hid hC
  obtain ⟨R, hR⟩ : ∃ R, R = appendS d (g, p) x := ⟨_, rfl⟩
  rw [← hR]
  have hR' := Lib.hid hR
  obtain ⟨P, hP⟩ : ∃ P, P = putN g := ⟨_, rfl⟩
  have hPl : P.length ≤ 10 := by rw [hP]; exact putN_le g hg64
  obtain ⟨x1, hx1⟩ : ∃ x, x = ((d.1.length / 4 : Nat) : Int) := ⟨_, rfl⟩
  obtain ⟨x2, hx2⟩ : ∃ x, x = ((2 * (d.1.length / 4) : Nat) : Int) := ⟨_, rfl⟩
  obtain ⟨x3, hx3⟩ : ∃ x, x = ((d.1.length - 2 * (d.1.length / 4) : Nat) : Int) := ⟨_, rfl⟩
  have he : layV d.1.length = .agg #[.int .i64 ((d.1.length / 4 : Nat) : Int), .int .i64 ((2 * (d.1.length / 4) : Nat) : Int), .int .i64 ((d.1.length - 2 * (d.1.length / 4) : Nat) : Int)] := rfl
  have hreg : regS d.1.length = (x2, x3) := by rw [hx2, hx3]; rfl
  rw [← hx1, ← hx2, ← hx3] at he
  rw [he] at HO
  rw [← hP] at HP
  obtain ⟨r, hr⟩ : ∃ r, r = appendJ d (x2, x3) p (P ++ x) := ⟨_, rfl⟩
  have HJ := Lib.hid (fun v W h t => JAppend_any d v x2 x3 p (P ++ x) W h t (by rw [List.length_append]; omega))
  rw [← hr] at HJ
  have hr' := Lib.hid (show r = appendJ d (regS d.1.length) p (putN g ++ x) by rw [hreg, ← hP]; exact hr)
  have hba := bytes_app P x
  have z1 : (⟨P.toArray⟩ : ByteArray).size = P.length := rfl
  have z2 : (⟨x.toArray⟩ : ByteArray).size = x.length := rfl
  have hadd : ¬ (9223372036854775807 < P.length + x.length) := by omega
  clear hC hR he hx1 hx2 hx3 hreg hr hP
  obtain ⟨ab, cb, ac, cc, rfl, _, _, _, _⟩ := h.form
  obtain ⟨WA, hWA⟩ : ∃ WA, (w.alloc (.cells #[.slice ab d.1.length cb, .slice ac d.2.length cc] 29)).alloc (.cells #[.int .u64 (g : Int), .int .i64 p] 32) = WA := ⟨_, rfl⟩
  obtain ⟨k0, k1, hsA, eA⟩ := alloc2 w (.cells #[.slice ab d.1.length cb, .slice ac d.2.length cc] 29) (.cells #[.int .u64 (g : Int), .int .i64 p] 32)
  rw [hWA] at k0 k1 hsA eA
  obtain ⟨k2, k3, hsB, eB⟩ := alloc2 WA (.cells #[.slice none 0 0, .slice none 0 0] 29) (.cells #[.int .u64 0, .int .i64 0] 32)
  obtain ⟨WB, hWB⟩ : ∃ WB, (WA.alloc (.cells #[.slice none 0 0, .slice none 0 0] 29)).alloc (.cells #[.int .u64 0, .int .i64 0] 32) = WB := ⟨_, rfl⟩
  rw [hWB] at k2 k3 hsB eB
  rw [hsA] at k2 k3 hsB
  have eC := Go.Joins.below_alloc1 WB (.cells #[.int .i64 0] 23)
  have k4 := World.alloc_heap_new WB (.cells #[.int .i64 0] 23)
  rw [hsB] at k4
  have eAB := eA.trans (eB.mono eA.size)
  have hB := Lib.hid (eAB.trans (eC.mono eAB.size))
  have k0' := heap_below (heap_below k0 eB) eC
  have k1' := heap_below (heap_below k1 eB) eC
  have k2' := heap_below k2 eC
  have k3' := heap_below k3 eC
  have h0 := Lib.hid h
  have hT := Lib.hid ht
  clear h ht k0 k1 k2 k3 eA eB eC eAB
  go_enter_defers Tryz.func21, Tryz.ntmps21
  go_upto_region 2 with (fail)
  generalize hW1 : WB.alloc (.cells #[.int .i64 0] 23) = W1 at *
  clear hW1 hWA hWB hsA hsB
  have c0 := cell2_0 k0'
  have c1 := cell2_1 k0'
  have l0 := cell2_0 k1'
  have l1 := cell2_1 k1'
  go_wp2_with fail
  refine (HO.out _ (h0.out.below hB.out)).mono ?_
  rintro e w2 (⟨ho, rfl, hgd, b2⟩ | ⟨ho, rfl, b2⟩)
  · have B2 := Lib.hid (hB.out.trans (b2.mono hB.out.size))
    have k02 := heap_below k0' b2
    have k12 := heap_below k1' b2
    have k22 := heap_below k2' b2
    have k32 := heap_below k3' b2
    have k42 := heap_below k4 b2
    have ho' := Lib.hid ho
    have a3 := Go.Joins.below_alloc1 w2 (.cells #[.int .i64 x1, .int .i64 x2, .int .i64 x3] 67)
    have k53 := World.alloc_heap_new w2 (.cells #[.int .i64 x1, .int .i64 x2, .int .i64 x3] 67)
    have k03 := heap_below k02 a3
    have k13 := heap_below k12 a3
    have k23 := heap_below k22 a3
    have k33 := heap_below k32 a3
    have k43 := heap_below k42 a3
    have B3 := Lib.hid (B2.out.trans (a3.mono B2.out.size))
    have lw2 : w.heap.size + 2 + 2 < w2.heap.size := (Array.getElem?_eq_some_iff.1 k42).1
    clear c0 c1 l0 l1 k0' k1' k2' k3' k4 k02 k12 k22 k32 k42 a3 b2 ho hgd
    go_upto_region 3 with (fail)
    generalize hW3 : (w2.alloc (.cells #[.int .i64 x1, .int .i64 x2, .int .i64 x3] 67)) = W3 at *
    clear hW3
    have d0 := cell2_0 k03
    have d1 := cell2_1 k03
    have l0 := cell2_0 k13
    have l1 := cell2_1 k13
    have y1 := cell3_1 k53
    have y2 := cell3_2 k53
    have HK := Lib.hid (And.intro k03 (And.intro k13 (And.intro k23 (And.intro k33 k43))))
    clear k03 k13 k23 k33 k43 k53
    go_cut [10, 11] from 15 to 29 (fun u v W => u = .int .i64 r.2.1 ∧ v = .int .i64 (r.2.2 : Int) ∧ ∃ (a1 a2 : Option Addr) (n1 n2 : Nat), W.heap[w.heap.size]? = some (.cells #[.slice a1 r.1.1.length n1, .slice a2 r.1.2.length n2] 29 (0, 0)) ∧ DiskIs W r.1 (.agg #[.slice a1 r.1.1.length n1, .slice a2 r.1.2.length n2]) ∧ W.heap[w.heap.size + 1]? = some (.cells #[.int .u64 (g : Int), .int .i64 p] 32 (0, 0)) ∧ W.heap[w.heap.size + 2]? = some (.cells #[.slice none 0 0, .slice none 0 0] 29 (0, 0)) ∧ W.heap[w.heap.size + 2 + 1]? = some (.cells #[.int .u64 0, .int .i64 0] 32 (0, 0)) ∧ W.heap[w.heap.size + 2 + 2]? = some (.cells #[.int .i64 0] 23 (0, 0)) ∧ Below w.heap.size w W)
    case first =>
      have HL := Lib.hid (And.intro (Nat.lt_of_lt_of_le (show w.heap.size < w2.heap.size by omega) (show w2.heap.size ≤ w2.heap.size from Nat.le_refl _)) (show w.heap.size + 1 < w2.heap.size by omega))
      have n1 : ¬ (w.heap.size = w.heap.size + 1) := by omega
      have n2 : ¬ (w.heap.size = w2.heap.size) := by omega
      refine wp_region_noPanic ?_
      refine wp_region_held_drew (S := (fun W => W.cell? { block := w.heap.size + 1, off := 0, spot := none } = some (.int .u64 (g : Int)) ∧ W.cell? { block := w.heap.size + 1, off := 1, spot := none } = some (.int .i64 p) ∧ W.cell? { block := w2.heap.size, off := 1, spot := none } = some (.int .i64 x2) ∧ W.cell? { block := w2.heap.size, off := 2, spot := none } = some (.int .i64 x3))) (by kernel_rfl) ?_ (fun hHeld => ?_)
      · first | exact ⟨l0, l1, y1, y2⟩ | exact ⟨o2, o3, o4, o5⟩ | exact ⟨p2, p3, p4, p5⟩ | exact ⟨keep_far (keep_far p2 (by dsimp only; omega)) (by dsimp only; omega), keep_far (keep_far p3 (by dsimp only; omega)) (by dsimp only; omega), keep_far (keep_far p4 (by dsimp only; omega)) (by dsimp only; omega), keep_far (keep_far p5 (by dsimp only; omega)) (by dsimp only; omega)⟩
      refine wpAnyH_take (i := 1) (v := ?_) rfl (by kernel_rfl) (by kernel_rfl) (by kernel_rfl) (fun _ _ _ h => h) (Or.inl ⟨by rfl, ?_⟩) (by assumption) ?_
      rotate_left
      · intro Wt hSw; (try dsimp only at hSw); go_simp; with_reducible rfl
      refine wpAnyH_take (i := 2) (v := ?_) rfl (by kernel_rfl) (by kernel_rfl) (by kernel_rfl) (fun _ _ _ h => h) (Or.inl ⟨by rfl, ?_⟩) (by assumption) ?_
      rotate_left
      · intro Wt hSw; (try dsimp only at hSw); go_simp; with_reducible rfl
      refine wpAnyH_take (i := 3) (v := ?_) rfl (by kernel_rfl) (by kernel_rfl) (by kernel_rfl) (fun _ _ _ h => h) (Or.inl ⟨by rfl, ?_⟩) (by assumption) ?_
      rotate_left
      · intro Wt hSw; (try dsimp only at hSw); go_simp; with_reducible rfl
      refine wpAnyH_take (i := 4) (v := ?_) rfl (by kernel_rfl) (by kernel_rfl) (by kernel_rfl) (fun _ _ _ h => h) (Or.inl ⟨by rfl, ?_⟩) (by assumption) ?_
      rotate_left
      · intro Wt hSw; (try dsimp only at hSw); go_simp; with_reducible rfl
      refine wpAnyH_take (i := 5) (v := ?_) rfl (by kernel_rfl) (by kernel_rfl) (by kernel_rfl) (fun _ _ _ h => h) (Or.inl ⟨by rfl, ?_⟩) (by assumption) ?_
      rotate_left
      · intro Wt hSw; (try dsimp only at hSw); go_simp; with_reducible rfl
      refine wpAnyH_take (i := 6) (v := ?_) rfl (by kernel_rfl) (by kernel_rfl) (by kernel_rfl) (fun _ _ _ h => h) (Or.inl ⟨by rfl, ?_⟩) (by assumption) ?_
      rotate_left
      · intro Wt hSw; (try dsimp only at hSw); go_simp; with_reducible rfl
      refine wpAnyH_take (i := 8) (v := ?_) rfl (by kernel_rfl) (by kernel_rfl) (by kernel_rfl) (fun _ _ _ h => h) (Or.inl ⟨by rfl, ?_⟩) (by assumption) ?_
      rotate_left
      · intro Wt hSw; (try dsimp only at hSw); go_simp; with_reducible rfl
      refine wpAnyH_ready (rs := [0, 7]) (by kernel_rfl) (by simp) ?_
      refine AllReadyH.cons rfl (fun K hK => ?_) (AllReadyH.cons rfl (fun K hK => ?_) AllReadyH.nil)
      · go_simp
        refine hK.out _ _ ?_ (fun hHeld => ?_)
        · first | exact ⟨l0, l1, y1, y2⟩ | exact ⟨o2, o3, o4, o5⟩ | exact ⟨p2, p3, p4, p5⟩ | exact ⟨keep_far (keep_far p2 (by dsimp only; omega)) (by dsimp only; omega), keep_far (keep_far p3 (by dsimp only; omega)) (by dsimp only; omega), keep_far (keep_far p4 (by dsimp only; omega)) (by dsimp only; omega), keep_far (keep_far p5 (by dsimp only; omega)) (by dsimp only; omega)⟩
        clear hK K
        refine wpAnyH_ready (rs := [7]) (by kernel_rfl) (by simp) ?_
        refine AllReadyH.cons rfl (fun K hK => ?_) AllReadyH.nil
        go_simp
        refine (HP.out _).mono ?_
        rintro e u1 ⟨rfl, q1⟩
        have o0 := cell_below q1 (show W3.drew.cell? _ = _ from d0)
        have o1 := cell_below q1 (show W3.drew.cell? _ = _ from d1)
        have o2 := cell_below q1 (show W3.drew.cell? _ = _ from l0)
        have o3 := cell_below q1 (show W3.drew.cell? _ = _ from l1)
        have o4 := cell_below q1 (show W3.drew.cell? _ = _ from y1)
        have o5 := cell_below q1 (show W3.drew.cell? _ = _ from y2)
        have U1 := Lib.hid (B3.out.drew.trans ((show Below W3.drew.heap.size W3.drew u1 from q1).mono B3.out.size))
        have q1' := Lib.hid q1
        refine hK.out _ _ ?_ (fun hHeld => ?_)
        · first | exact ⟨l0, l1, y1, y2⟩ | exact ⟨o2, o3, o4, o5⟩ | exact ⟨p2, p3, p4, p5⟩ | exact ⟨keep_far (keep_far p2 (by dsimp only; omega)) (by dsimp only; omega), keep_far (keep_far p3 (by dsimp only; omega)) (by dsimp only; omega), keep_far (keep_far p4 (by dsimp only; omega)) (by dsimp only; omega), keep_far (keep_far p5 (by dsimp only; omega)) (by dsimp only; omega)⟩
        clear hK K
        refine wpAnyH_take (i := 9) (v := ?_) rfl (by kernel_rfl) (by kernel_rfl) (by kernel_rfl) (fun _ _ _ h => h) (Or.inl ⟨by rfl, ?_⟩) (by assumption) ?_
        rotate_left
        · intro Wt hSw; (try dsimp only at hSw); go_simp; with_reducible rfl
        refine wpAnyH_ready (rs := [10]) (by kernel_rfl) (by simp) ?_
        refine AllReadyH.cons rfl (fun K hK => ?_) AllReadyH.nil
        go_simp
        refine (HJ.out _ _ (h0.out.below U1.out) (hT.out.below U1.out)).mono ?_
        rintro e u2 ⟨v', rfl, hd, q2⟩
        obtain ⟨a1, n1, a2, n2, rfl, _⟩ := hd.form
        have K0 := heap_below (heap_below (show W3.drew.heap[w.heap.size]? = _ from HK.out.1) q1'.out) q2
        have m0 := cell2_0 K0
        have m1 := cell2_1 K0
        have m4 := frozen2 K0 0
        have m5 := frozen2 K0 1
        have p2 := cell_below q2 o2
        have p3 := cell_below q2 o3
        have p4 := cell_below q2 o4
        have p5 := cell_below q2 o5
        have U2 := Lib.hid (U1.out.trans (q2.mono U1.out.size))
        refine hK.out _ _ ?_ (fun hHeld => ?_)
        · first | exact ⟨l0, l1, y1, y2⟩ | exact ⟨o2, o3, o4, o5⟩ | exact ⟨p2, p3, p4, p5⟩ | exact ⟨keep_far (keep_far p2 (by dsimp only; omega)) (by dsimp only; omega), keep_far (keep_far p3 (by dsimp only; omega)) (by dsimp only; omega), keep_far (keep_far p4 (by dsimp only; omega)) (by dsimp only; omega), keep_far (keep_far p5 (by dsimp only; omega)) (by dsimp only; omega)⟩
        clear hK K
        refine wpAnyH_take (i := 11) (v := ?_) rfl (by kernel_rfl) (by kernel_rfl) (by kernel_rfl) (fun _ _ _ h => h) (Or.inl ⟨by rfl, ?_⟩) (by assumption) ?_
        rotate_left
        · intro Wt hSw; (try dsimp only at hSw); go_simp; with_reducible rfl
        refine wpAnyH_take (i := 12) (v := ?_) rfl (by kernel_rfl) (by kernel_rfl) (by kernel_rfl) (fun _ _ _ h => h) (Or.inl ⟨by rfl, ?_⟩) (by assumption) ?_
        rotate_left
        · intro Wt hSw; (try dsimp only at hSw); go_simp; with_reducible rfl
        refine wpAnyH_take (i := 13) (v := ?_) rfl (by kernel_rfl) (by kernel_rfl) (by kernel_rfl) (fun _ _ _ h => h) (Or.inl ⟨by rfl, ?_⟩) (by assumption) ?_
        rotate_left
        · intro Wt hSw; (try dsimp only at hSw); go_simp; with_reducible rfl
        refine wpAnyH_take (i := 14) (v := ?_) rfl (by kernel_rfl) (by kernel_rfl) (by kernel_rfl) (fun _ _ _ h => h) (Or.inl ⟨by rfl, ?_⟩) (by assumption) ?_
        rotate_left
        · intro Wt hSw; (try dsimp only at hSw); go_simp; with_reducible rfl
        refine wpAnyH_ready (rs := [15]) (by kernel_rfl) (by simp) ?_
        refine AllReadyH.cons rfl (fun K hK => ?_) AllReadyH.nil
        go_simp
        refine hK.out _ _ ?_ (fun hHeld => ?_)
        · first | exact ⟨l0, l1, y1, y2⟩ | exact ⟨o2, o3, o4, o5⟩ | exact ⟨p2, p3, p4, p5⟩ | exact ⟨keep_far (keep_far p2 (by dsimp only; omega)) (by dsimp only; omega), keep_far (keep_far p3 (by dsimp only; omega)) (by dsimp only; omega), keep_far (keep_far p4 (by dsimp only; omega)) (by dsimp only; omega), keep_far (keep_far p5 (by dsimp only; omega)) (by dsimp only; omega)⟩
        clear hK K
        refine wpAnyH_take (i := 16) (v := ?_) rfl (by kernel_rfl) (by kernel_rfl) (by kernel_rfl) (fun _ _ _ h => h) (Or.inl ⟨by rfl, ?_⟩) (by assumption) ?_
        rotate_left
        · intro Wt hSw; (try dsimp only at hSw); go_simp; with_reducible rfl
        refine wpAnyH_take (i := 17) (v := ?_) rfl (by kernel_rfl) (by kernel_rfl) (by kernel_rfl) (fun _ _ _ h => h) (Or.inl ⟨by rfl, ?_⟩) (by assumption) ?_
        rotate_left
        · intro Wt hSw; (try dsimp only at hSw); go_simp; with_reducible rfl
        refine wpAnyH_done (by kernel_rfl) ?_ _
        refine NoPanic.normal ?_
        go_wp2_with fail
        go_meet
        exact ⟨rfl, rfl, a1, a2, n1, n2, set_two K0, disk_apart (disk_apart hd K0) (Lib.heap_setCell_same (i := 0) K0 _), two_other (by omega) (heap_below (heap_below (show W3.drew.heap[w.heap.size + 1]? = _ from HK.out.2.1) q1'.out) q2), two_other (by omega) (heap_below (heap_below (show W3.drew.heap[w.heap.size + 2]? = _ from HK.out.2.2.1) q1'.out) q2), two_other (by omega) (heap_below (heap_below (show W3.drew.heap[w.heap.size + 2 + 1]? = _ from HK.out.2.2.2.1) q1'.out) q2), two_other (by omega) (heap_below (heap_below (show W3.drew.heap[w.heap.size + 2 + 2]? = _ from HK.out.2.2.2.2) q1'.out) q2), below_set (below_set U2.out (Nat.le_refl _)) (Nat.le_refl _)⟩
      · go_simp
        refine (HP.out _).mono ?_
        rintro e u1 ⟨rfl, q1⟩
        have o0 := cell_below q1 (show W3.drew.cell? _ = _ from d0)
        have o1 := cell_below q1 (show W3.drew.cell? _ = _ from d1)
        have o2 := cell_below q1 (show W3.drew.cell? _ = _ from l0)
        have o3 := cell_below q1 (show W3.drew.cell? _ = _ from l1)
        have o4 := cell_below q1 (show W3.drew.cell? _ = _ from y1)
        have o5 := cell_below q1 (show W3.drew.cell? _ = _ from y2)
        have U1 := Lib.hid (B3.out.drew.trans ((show Below W3.drew.heap.size W3.drew u1 from q1).mono B3.out.size))
        have q1' := Lib.hid q1
        refine hK.out _ _ ?_ (fun hHeld => ?_)
        · first | exact ⟨l0, l1, y1, y2⟩ | exact ⟨o2, o3, o4, o5⟩ | exact ⟨p2, p3, p4, p5⟩ | exact ⟨keep_far (keep_far p2 (by dsimp only; omega)) (by dsimp only; omega), keep_far (keep_far p3 (by dsimp only; omega)) (by dsimp only; omega), keep_far (keep_far p4 (by dsimp only; omega)) (by dsimp only; omega), keep_far (keep_far p5 (by dsimp only; omega)) (by dsimp only; omega)⟩
        clear hK K
        refine wpAnyH_take (i := 9) (v := ?_) rfl (by kernel_rfl) (by kernel_rfl) (by kernel_rfl) (fun _ _ _ h => h) (Or.inl ⟨by rfl, ?_⟩) (by assumption) ?_
        rotate_left
        · intro Wt hSw; (try dsimp only at hSw); go_simp; with_reducible rfl
        refine wpAnyH_ready (rs := [0]) (by kernel_rfl) (by simp) ?_
        refine AllReadyH.cons rfl (fun K hK => ?_) AllReadyH.nil
        go_simp
        refine hK.out _ _ ?_ (fun hHeld => ?_)
        · first | exact ⟨l0, l1, y1, y2⟩ | exact ⟨o2, o3, o4, o5⟩ | exact ⟨p2, p3, p4, p5⟩ | exact ⟨keep_far (keep_far p2 (by dsimp only; omega)) (by dsimp only; omega), keep_far (keep_far p3 (by dsimp only; omega)) (by dsimp only; omega), keep_far (keep_far p4 (by dsimp only; omega)) (by dsimp only; omega), keep_far (keep_far p5 (by dsimp only; omega)) (by dsimp only; omega)⟩
        clear hK K
        refine wpAnyH_ready (rs := [10]) (by kernel_rfl) (by simp) ?_
        refine AllReadyH.cons rfl (fun K hK => ?_) AllReadyH.nil
        go_simp
        refine (HJ.out _ _ (h0.out.below U1.out) (hT.out.below U1.out)).mono ?_
        rintro e u2 ⟨v', rfl, hd, q2⟩
        obtain ⟨a1, n1, a2, n2, rfl, _⟩ := hd.form
        have K0 := heap_below (heap_below (show W3.drew.heap[w.heap.size]? = _ from HK.out.1) q1'.out) q2
        have m0 := cell2_0 K0
        have m1 := cell2_1 K0
        have m4 := frozen2 K0 0
        have m5 := frozen2 K0 1
        have p2 := cell_below q2 o2
        have p3 := cell_below q2 o3
        have p4 := cell_below q2 o4
        have p5 := cell_below q2 o5
        have U2 := Lib.hid (U1.out.trans (q2.mono U1.out.size))
        refine hK.out _ _ ?_ (fun hHeld => ?_)
        · first | exact ⟨l0, l1, y1, y2⟩ | exact ⟨o2, o3, o4, o5⟩ | exact ⟨p2, p3, p4, p5⟩ | exact ⟨keep_far (keep_far p2 (by dsimp only; omega)) (by dsimp only; omega), keep_far (keep_far p3 (by dsimp only; omega)) (by dsimp only; omega), keep_far (keep_far p4 (by dsimp only; omega)) (by dsimp only; omega), keep_far (keep_far p5 (by dsimp only; omega)) (by dsimp only; omega)⟩
        clear hK K
        refine wpAnyH_take (i := 11) (v := ?_) rfl (by kernel_rfl) (by kernel_rfl) (by kernel_rfl) (fun _ _ _ h => h) (Or.inl ⟨by rfl, ?_⟩) (by assumption) ?_
        rotate_left
        · intro Wt hSw; (try dsimp only at hSw); go_simp; with_reducible rfl
        refine wpAnyH_take (i := 12) (v := ?_) rfl (by kernel_rfl) (by kernel_rfl) (by kernel_rfl) (fun _ _ _ h => h) (Or.inl ⟨by rfl, ?_⟩) (by assumption) ?_
        rotate_left
        · intro Wt hSw; (try dsimp only at hSw); go_simp; with_reducible rfl
        refine wpAnyH_take (i := 13) (v := ?_) rfl (by kernel_rfl) (by kernel_rfl) (by kernel_rfl) (fun _ _ _ h => h) (Or.inl ⟨by rfl, ?_⟩) (by assumption) ?_
        rotate_left
        · intro Wt hSw; (try dsimp only at hSw); go_simp; with_reducible rfl
        refine wpAnyH_take (i := 14) (v := ?_) rfl (by kernel_rfl) (by kernel_rfl) (by kernel_rfl) (fun _ _ _ h => h) (Or.inl ⟨by rfl, ?_⟩) (by assumption) ?_
        rotate_left
        · intro Wt hSw; (try dsimp only at hSw); go_simp; with_reducible rfl
        refine wpAnyH_ready (rs := [15]) (by kernel_rfl) (by simp) ?_
        refine AllReadyH.cons rfl (fun K hK => ?_) AllReadyH.nil
        go_simp
        refine hK.out _ _ ?_ (fun hHeld => ?_)
        · first | exact ⟨l0, l1, y1, y2⟩ | exact ⟨o2, o3, o4, o5⟩ | exact ⟨p2, p3, p4, p5⟩ | exact ⟨keep_far (keep_far p2 (by dsimp only; omega)) (by dsimp only; omega), keep_far (keep_far p3 (by dsimp only; omega)) (by dsimp only; omega), keep_far (keep_far p4 (by dsimp only; omega)) (by dsimp only; omega), keep_far (keep_far p5 (by dsimp only; omega)) (by dsimp only; omega)⟩
        clear hK K
        refine wpAnyH_take (i := 16) (v := ?_) rfl (by kernel_rfl) (by kernel_rfl) (by kernel_rfl) (fun _ _ _ h => h) (Or.inl ⟨by rfl, ?_⟩) (by assumption) ?_
        rotate_left
        · intro Wt hSw; (try dsimp only at hSw); go_simp; with_reducible rfl
        refine wpAnyH_take (i := 17) (v := ?_) rfl (by kernel_rfl) (by kernel_rfl) (by kernel_rfl) (fun _ _ _ h => h) (Or.inl ⟨by rfl, ?_⟩) (by assumption) ?_
        rotate_left
        · intro Wt hSw; (try dsimp only at hSw); go_simp; with_reducible rfl
        refine wpAnyH_done (by kernel_rfl) ?_ _
        refine NoPanic.normal ?_
        go_wp2_with fail
        go_meet
        exact ⟨rfl, rfl, a1, a2, n1, n2, set_two K0, disk_apart (disk_apart hd K0) (Lib.heap_setCell_same (i := 0) K0 _), two_other (by omega) (heap_below (heap_below (show W3.drew.heap[w.heap.size + 1]? = _ from HK.out.2.1) q1'.out) q2), two_other (by omega) (heap_below (heap_below (show W3.drew.heap[w.heap.size + 2]? = _ from HK.out.2.2.1) q1'.out) q2), two_other (by omega) (heap_below (heap_below (show W3.drew.heap[w.heap.size + 2 + 1]? = _ from HK.out.2.2.2.1) q1'.out) q2), two_other (by omega) (heap_below (heap_below (show W3.drew.heap[w.heap.size + 2 + 2]? = _ from HK.out.2.2.2.2) q1'.out) q2), below_set (below_set U2.out (Nat.le_refl _)) (Nat.le_refl _)⟩
    case rest =>
      obtain ⟨rfl, rfl, a1, a2, n1, n2, K0, hd, K1, K2, K3, K4, hb⟩ := hcut
      clear d0 d1 l0 l1 y1 y2
      have HB := Lib.hid hb
      have HD := Lib.hid hd
      have N2 := no_str K2 (by simp)
      have N3 := no_str K3 (by simp)
      have N4 := no_str K4 (by simp)
      have NN := Lib.hid (And.intro N2 (And.intro N3 N4))
      by_cases hz : r.2.2 = 0
      · have hr2 := Lib.hid (hR'.out.trans (append_done (hC'.out.symm.trans ho'.out) hr'.out hz))
        obtain ⟨m, hm⟩ : ∃ m, m = r.2.1 := ⟨_, rfl⟩
        have hm' := Lib.hid hm
        rw [hz, ← hm]
        clear hb hd hm hz N2 N3 N4
        rename_i Wc
        have d0 := cell2_0 K0
        have d1 := cell2_1 K0
        have l0 := cell2_0 K1
        have l1 := cell2_1 K1
        have z0 := cell2_0 K2
        have z1 := cell2_1 K2
        have z2 := cell2_0 K3
        have z3 := cell2_1 K3
        have z4 := cell1 K4
        have z5 := frozen2 K2 0
        have z6 := frozen2 K2 1
        have z7 := frozen2 K3 0
        have z8 := frozen2 K3 1
        have z9 := frozen1 K4
        go_wp2_with fail
        refine (HM.out _).mono ?_
        rintro e w5 ⟨rfl, rfl⟩
        go_upto_region 5 with (fail)
        have HK5 := Lib.hid (And.intro K0 (And.intro K1 (And.intro K2 (And.intro K3 K4))))
        clear K0 K1 K2 K3 K4 HP HJ HO HM HF h0 hT hB B2 B3 hba
        have h23 : w.heap.size + 2 ≠ w.heap.size + 2 + 1 := by omega
        have h24 : w.heap.size + 2 ≠ w.heap.size + 2 + 2 := by omega
        have h32 : w.heap.size + 2 + 1 ≠ w.heap.size + 2 := by omega
        have h34 : w.heap.size + 2 + 1 ≠ w.heap.size + 2 + 2 := by omega
        have h42 : w.heap.size + 2 + 2 ≠ w.heap.size + 2 := by omega
        have h43 : w.heap.size + 2 + 2 ≠ w.heap.size + 2 + 1 := by omega
        have g2 : w.heap.size ≤ w.heap.size + 2 := by omega
        have g3 : w.heap.size ≤ w.heap.size + 2 + 1 := by omega
        have g4 : w.heap.size ≤ w.heap.size + 2 + 2 := by omega
        have h20 : w.heap.size + 2 ≠ w.heap.size := by omega
        have h21 : w.heap.size + 2 ≠ w.heap.size + 1 := by omega
        have h30 : w.heap.size + 2 + 1 ≠ w.heap.size := by omega
        have h31 : w.heap.size + 2 + 1 ≠ w.heap.size + 1 := by omega
        have h40 : w.heap.size + 2 + 2 ≠ w.heap.size := by omega
        have h41 : w.heap.size + 2 + 2 ≠ w.heap.size + 1 := by omega
        go_region_held3 (fun W => W.cell? { block := w.heap.size, off := 0, spot := none } = some (.slice a1 r.1.1.length n1) ∧ W.cell? { block := w.heap.size, off := 1, spot := none } = some (.slice a2 r.1.2.length n2) ∧ W.cell? { block := w.heap.size + 1, off := 0, spot := none } = some (.int .u64 (g : Int))) ((first | (simp only [World.cell?_setCell_far, ne_eq, h20, h21, h30, h31, h40, h41, not_false_eq_true, d0, d1, l0, and_self]; done) | go_keep)) (fail)
        all_goals
          go_wp2
          obtain rfl := hm'.out
          refine leaves_cons (f := 46) (args := #[.pointer (some ⟨w.heap.size + 2 + 2, 0, none⟩)]) (by simp) (by simp [go_sem]) ?_
          refine (given_idle ⟨w.heap.size + 2 + 2, 0, none⟩ _).mono ?_
          rintro e u' w'' ⟨rfl, rfl, rfl⟩
          obtain ⟨_, _, K2, K3, K4⟩ := HK5.out
          obtain ⟨N2, N3, N4⟩ := NN.out
          have F2 := other_set (j := 0) (other_set (j := 1) (other_set (j := 0) (set_two (x' := .slice a1 r.1.1.length n1) (y' := .slice a2 r.1.2.length n2) K2) h23 (.int .u64 (g : Int))) h23 (.int .i64 r.2.1)) h24 (.int .i64 0)
          have F3 := other_set (j := 0) (set_two (x' := .int .u64 (g : Int)) (y' := .int .i64 r.2.1) (other_set (j := 1) (other_set (j := 0) K3 h32 (.slice a1 r.1.1.length n1)) h32 (.slice a2 r.1.2.length n2))) h34 (.int .i64 0)
          have F4 := Lib.heap_setCell_same (i := 0) (other_set (j := 1) (other_set (j := 0) (other_set (j := 1) (other_set (j := 0) K4 h42 (.slice a1 r.1.1.length n1)) h42 (.slice a2 r.1.2.length n2)) h43 (.int .u64 (g : Int))) h43 (.int .i64 r.2.1)) (.int .i64 0)
          have D := disk_aside (j := 0) (u := .int .i64 0) (disk_aside (j := 1) (u := .int .i64 r.2.1) (disk_aside (j := 0) (u := .int .u64 (g : Int)) (disk_aside (j := 1) (u := .slice a2 r.1.2.length n2) (disk_aside (j := 0) (u := .slice a1 r.1.1.length n1) HD.out N2) (nostr_set N2 (by simp))) (nostr_set (nostr_set N3 (by simp)) (by simp))) (nostr_set (nostr_set (nostr_set N3 (by simp)) (by simp)) (by simp))) (nostr_set (nostr_set (nostr_set (nostr_set N4 (by simp)) (by simp)) (by simp)) (by simp))
          refine ⟨_, results_c3 rfl _ _ _ _ _ _ _ _ rfl rfl rfl (load_disk F2) (load_log F3) (load_errno (cell1 F4)), .agg #[.slice a1 r.1.1.length n1, .slice a2 r.1.2.length n2], by rw [hr2.out]; rfl, ?_, ?_⟩
          · rw [hr2.out]; exact D.drew
          · exact (below_set (below_set (below_set (below_set (below_set HB.out g2) g2) g3) g3) g4).drew
      · have hr2 := Lib.hid (hR'.out.trans (append_fault2 (hC'.out.symm.trans ho'.out) hr'.out hz))
        obtain ⟨k, hk⟩ : ∃ k, k = r.2.2 := ⟨_, rfl⟩
        rw [← hk] at hz hr2 ⊢
        clear hk hb hd N2 N3 N4
        go_wp2_with fail
        refine (HF.out k hz _).mono ?_
        rintro e w5 ⟨rfl, rfl⟩
        have a9 := Go.Joins.below_alloc1 w5 (.cells #[.int .i64 (k : Int)] 123)
        go_wp2
        refine leaves_cons (f := 46) (args := #[.pointer (some ⟨w.heap.size + 2 + 2, 0, none⟩)]) (by simp) (by simp [go_sem]) ?_
        refine (given_fault ⟨w.heap.size + 2 + 2, 0, none⟩ k _ [] _ (cell1 K4) (frozen1 K4)).mono ?_
        rintro e u' w'' ⟨rfl, rfl, rfl⟩
        exact ⟨_, results_c3 rfl _ _ _ _ _ _ _ _ rfl rfl rfl (load_disk (other_set (heap_below K2 a9) (by omega) _)) (load_log (other_set (heap_below K3 a9) (by omega) _)) (load_errno (cell1 (Lib.heap_setCell_same (i := 0) (heap_below K4 a9) _))), .agg #[.slice none 0 0, .slice none 0 0], by rw [hr2.out]; rfl, by rw [hr2.out]; exact DiskIs.none _, below_set (HB.out.trans (a9.mono HB.out.size)) (by omega)⟩
  · have B2 := Lib.hid (hB.out.trans (b2.mono hB.out.size))
    have k22 := heap_below k2' b2
    have k32 := heap_below k3' b2
    have k42 := heap_below k4 b2
    have hr2 := Lib.hid (hR'.out.trans (append_fault hC'.out ho))
    clear c0 c1 l0 l1
    go_wp2
    refine leaves_cons (f := 46) (args := #[.pointer (some ⟨w.heap.size + 2 + 2, 0, none⟩)]) (by simp) (by simp [go_sem]) ?_
    refine (given_fault ⟨w.heap.size + 2 + 2, 0, none⟩ C _ [] _ (cell1 k42) (frozen1 k42)).mono ?_
    rintro e u' w'' ⟨rfl, rfl, rfl⟩
    have a9 := Go.Joins.below_alloc1 w2 (.cells #[.int .i64 (C : Int)] 123)
    exact ⟨_, results_c3 rfl _ _ _ _ _ _ _ _ rfl rfl rfl (load_disk (other_set (heap_below k22 a9) (by omega) _)) (load_log (other_set (heap_below k32 a9) (by omega) _)) (load_errno (cell1 (Lib.heap_setCell_same (i := 0) (heap_below k42 a9) _))), .agg #[.slice none 0 0, .slice none 0 0], by rw [hr2.out]; rfl, by rw [hr2.out]; exact DiskIs.none _, below_set (B2.out.trans (a9.mono B2.out.size)) (by omega)⟩
end Go.Proofs.YtmfbkelhegdmpaaGreatDoor
