/- The walk of the reference's copied, chapter 11 (disk). -/
import Derived.Test.YtmfbkelhegdmpaaGreatDoorDiskAW
namespace Go.Proofs.YtmfbkelhegdmpaaGreatDoor
open Go.RowKit Disk11

theorem own_tag {w w' : World} {base e e' size n G : Nat} {v : Value} {xs : List Value} {cs : Array Value} {fz : Nat × Nat} (h : w.ownsRow base e size v n xs) (hg : w.grownBy w' (some G)) (hG : w.heap[G]? = some (.cells cs e' fz)) (hne : e ≠ e') : w'.ownsRow base e size v n xs :=
  World.ownsRow.kept h hg (by
    rcases h.2 with ⟨rfl, _⟩ | ⟨g, cap, cur, rfl, _, hh, _⟩
    · exact Or.inl rfl
    · refine Or.inr (fun e1 => hne ?_)
      simp only [Value.ownBlock, Option.some.injEq] at e1
      subst e1
      rw [hG] at hh; cases hh; rfl)
set_option maxHeartbeats 8000000 in
set_option maxRecDepth 100000 in
theorem copied_any (d : Dev) (v : Value) (w : World) (h : DiskIs w d v) (hl : d.1.length ≤ 4096) (hl2 : d.2.length ≤ 4096) :
    Calls Tryz.prog 84 #[v] w fun e w' => ∃ vb vc, e = .returned (.agg #[vb, vc]) ∧ w'.ownsRow w.heap.size 9 1 vb d.1.length (strVals d.1) ∧ w'.ownsRow w.heap.size 49 2 vc d.2.length (wrVals d.2) ∧ Below w.heap.size w w' := by
  obtain ⟨vb, vc, rfl, hb, hc⟩ := h
  obtain ⟨ab, cb, rfl, _⟩ := hb.slice
  obtain ⟨ac, cc, rfl, _⟩ := hc.slice
  go_enter Tryz.func84, Tryz.ntmps84
  go_wp2
  obtain ⟨k1, k2, hsz, hbl⟩ := alloc2 w (.cells #[.slice ab d.1.length cb, .slice ac d.2.length cc] 29) (.cells #[.slice none 0 0, .slice none 0 0] 29)
  have hb0 := hb.below hbl
  have hc0 := hc.below hbl
  generalize ((w.alloc (.cells #[.slice ab d.1.length cb, .slice ac d.2.length cc] 29)).alloc (.cells #[.slice none 0 0, .slice none 0 0] 29)) = W0 at *
  have c0 := cell2_0 k1
  have c1 := cell2_1 k1
  have r0 := cell2_0 k2
  have r1 := cell2_1 k2
  have f0 := frozen2 k2 0
  have f1 := frozen2 k2 1
  obtain ⟨oS, hoS⟩ : ∃ o, o = Obj.cells #[] 9 := ⟨_, rfl⟩
  obtain ⟨oW, hoW⟩ : ∃ o, o = Obj.cells #[] 49 := ⟨_, rfl⟩
  have A1 : (W0.alloc (.cells #[] 9)).drew.heap[w.heap.size + 2]? = some (.cells #[] 9) := by rw [← hsz]; exact World.alloc_heap_new W0 _
  have A2 : ((W0.alloc (.cells #[] 9)).alloc (.cells #[] 49)).drew.heap[w.heap.size + 2]? = some (.cells #[] 9) := by rw [← hsz]; exact (alloc2 W0 _ _).1
  have A2' : ((W0.alloc (.cells #[] 9)).alloc (.cells #[] 49)).drew.heap[w.heap.size + 2 + 1]? = some (.cells #[] 49) := by rw [← hsz]; exact (alloc2 W0 _ _).2.1
  have A3 : ((W0.alloc (.cells #[] 49)).alloc (.cells #[] 9)).drew.heap[w.heap.size + 2 + 1]? = some (.cells #[] 9) := by rw [← hsz]; exact (alloc2 W0 _ _).2.1
  have A3' : ((W0.alloc (.cells #[] 49)).alloc (.cells #[] 9)).drew.heap[w.heap.size + 2]? = some (.cells #[] 49) := by rw [← hsz]; exact (alloc2 W0 _ _).1
  have B1 : Below W0.heap.size W0 (W0.alloc (.cells #[] 9)).drew := (Go.Joins.below_alloc1 W0 _).drew
  have B2 : Below W0.heap.size W0 ((W0.alloc (.cells #[] 9)).alloc (.cells #[] 49)).drew := (Go.Joins.below_alloc2 W0 _ _).drew
  have B3 : Below W0.heap.size W0 ((W0.alloc (.cells #[] 49)).alloc (.cells #[] 9)).drew := (Go.Joins.below_alloc2 W0 _ _).drew
  have hA := Lib.hid (And.intro A1 (And.intro A2 (And.intro A2' (And.intro A3 A3'))))
  have hB := Lib.hid (And.intro B1 (And.intro B2 B3))
  have hK := Lib.hid (And.intro k1 k2)
  clear A1 A2 A2' A3 A3' B1 B2 B3 k1 k2
  go_region_law (first
    | (refine step_app_row rfl infoStr rfl (by decide) Tryz.underlying26 rfl (w.heap.size + 2) rfl (by first | exact hA.out.1 | exact hA.out.2.1 | exact hA.out.2.2.2.1) (by omega) rfl (hb0.below (by first | exact hB.out.1 | exact hB.out.2.1 | exact hB.out.2.2)) (strVals_one d.1) (by unfold maxLen; omega) (by omega) (by simp; omega) ?_; intro ad1 cp1 w1 o1 b1 g1
       have bw : Below W0.heap.size W0 w1 := (by first | exact hB.out.1.trans (hsz ▸ b1) | exact hB.out.2.1.trans (hsz ▸ b1) | exact hB.out.2.2.trans (hsz ▸ b1))
       have k1' := heap_below hK.out.1 bw
       have k2' := heap_below hK.out.2 bw
       have c1' := cell2_1 k1'
       have c2' := cell2_1 (heap_below k1' (Go.Joins.below_alloc1 w1 (.cells #[] 49)))
       first
         | have mb := Lib.hid ((g1.block _ (Array.getElem?_eq_some_iff.1 hA.out.2.2.1).1 (by simp)).trans hA.out.2.2.1)
         | have mb := Lib.hid ((g1.block _ (Array.getElem?_eq_some_iff.1 hA.out.2.2.2.2).1 (by simp)).trans hA.out.2.2.2.2)
         | have mb := Lib.hid True.intro)
    | (refine step_app_row rfl infoWr rfl (by decide) Tryz.underlying27 rfl (w.heap.size + 2) rfl (by first | exact World.alloc_heap_new w1 _ | exact mb.out) (by first | omega | (have := b1.size; simp at this; omega)) rfl (hc0.below (by first | exact bw | exact bw.alloc bw.size _)) (wrVals_one d.2) (by unfold maxLen; omega) (by omega) (by have := b1.size; simp at this ⊢; omega) ?_; intro ad2 cp2 w2 o2 b2 g2
       have bw2 : Below W0.heap.size W0 w2 := (by first | exact bw.trans (hsz ▸ b2) | exact (bw.alloc bw.size _).trans (hsz ▸ b2))
       have k2'' := heap_below hK.out.2 bw2
       have r0' := cell2_0 k2''
       have r1' := cell2_1 k2''
       have f0' := frozen2 k2'' 0
       have f1' := frozen2 k2'' 1
       have o1' := (by first | exact own_tag (own_below o1 (Go.Joins.below_alloc1 w1 _)) g2 (World.alloc_heap_new w1 _) (by decide) | exact own_tag o1 g2 mb.out (by decide) : w2.ownsRow (w.heap.size + 2) 9 1 (.slice ad1 d.1.length cp1) d.1.length (strVals d.1))))
  all_goals
    have e1 := Lib.heap_setCell_same (i := 0) k2'' (.slice ad1 d.1.length cp1)
    have e2 := Lib.heap_setCell_same (i := 1) e1 (.slice ad2 d.2.length cp2)
    have q1 := own_set (b := w.heap.size + 1) (j := 1) (u := .slice ad2 d.2.length cp2) (own_set (b := w.heap.size + 1) (j := 0) (u := .slice ad1 d.1.length cp1) o1' (by omega)) (by omega)
    have q2 := own_set (b := w.heap.size + 1) (j := 1) (u := .slice ad2 d.2.length cp2) (own_set (b := w.heap.size + 1) (j := 0) (u := .slice ad1 d.1.length cp1) o2 (by omega)) (by omega)
    go_wp2
    refine bodyPost_ret (results_cell1 rfl _ _ (w.heap.size + 1) _ _ _ _ rfl e2 Tryz.underlying29 rfl (by kernel_rfl)) rfl ?_
    exact ⟨_, _, rfl, own_lower q1 (by omega), own_lower q2 (by omega), below_set (below_set (hbl.trans (bw2.mono (by omega))) (by omega)) (by omega)⟩
end Go.Proofs.YtmfbkelhegdmpaaGreatDoor
