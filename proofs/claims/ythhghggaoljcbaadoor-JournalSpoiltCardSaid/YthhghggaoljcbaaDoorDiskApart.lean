/- Values of devices beside stores into other blocks; a device result opened with its lengths. -/
import Derived.Test.YthhghggaoljcbaaDoorDiskW
namespace Go.Proofs.YthhghggaoljcbaaDoor
open Go.RowKit Disk11

theorem as_disk {B : Nat} {w w' : World} {e : Ending} {r : Dev × Nat} {d : Dev} {k nb nc : Nat} (n : Int) (hr : r = (d, k)) (hk : (k : Int) = n) (hb : d.1.length = nb) (hc : d.2.length = nc)
    (h : ∃ v', e = .returned (.tuple #[v', .int .i64 r.2]) ∧ DiskIs w' r.1 v' ∧ Below B w w') :
    ∃ ab cb ac cc, e = .returned (.tuple #[.agg #[.slice ab nb cb, .slice ac nc cc], .int .i64 n]) ∧ DiskIs w' d (.agg #[.slice ab nb cb, .slice ac nc cc]) ∧ Below B w w' := by
  subst hr hb hc hk
  obtain ⟨v', rfl, hd, hb⟩ := h
  obtain ⟨ab, cb, ac, cc, rfl, _⟩ := hd.form
  exact ⟨ab, cb, ac, cc, rfl, hd, hb⟩
theorem as_diskN {B : Nat} {w w' : World} {e : Ending} {r : Dev × Nat}
    (h : ∃ v', e = .returned (.tuple #[v', .int .i64 r.2]) ∧ DiskIs w' r.1 v' ∧ Below B w w') :
    ∃ ab nb cb ac nc cc, e = .returned (.tuple #[.agg #[.slice ab nb cb, .slice ac nc cc], .int .i64 r.2]) ∧ DiskIs w' r.1 (.agg #[.slice ab nb cb, .slice ac nc cc]) ∧ Below B w w' := by
  obtain ⟨v', rfl, hd, hb⟩ := h
  obtain ⟨ab, cb, ac, cc, rfl, _⟩ := hd.form
  exact ⟨ab, _, cb, ac, _, cc, rfl, hd, hb⟩
/-- A cell of another block than this row of two slices. -/
theorem cell_apart {w : World} {b j t : Nat} {u x : Value} {a : Addr} {a1 a2 : Option Addr} {n1 c1 n2 c2 : Nat} (hb : w.heap[b]? = some (.cells #[.slice a1 n1 c1, .slice a2 n2 c2] t (0, 0)))
    (hx : ∀ a n c, x ≠ .slice a n c) (h : w.cell? a = some x) : (w.setCell ⟨b, j, none⟩ u).cell? a = some x := by
  have hne : a.block ≠ b := by
    rintro rfl
    unfold World.cell? at h
    rw [hb] at h
    obtain ⟨g, o, p⟩ := a
    match o with
    | 0 => simp at h; exact hx _ _ _ h.2.symm
    | 1 => simp at h; exact hx _ _ _ h.2.symm
    | o + 2 => simp at h
  have hg := (grown_cell w b j u).block a.block (cell_lt h) (fun e => hne (by cases e; rfl))
  unfold World.cell? at h ⊢
  rw [hg]; exact h
theorem Row.apart {w : World} {size n b j t : Nat} {v u : Value} {xs : List Value} {a1 a2 : Option Addr} {n1 c1 n2 c2 : Nat} (h : Row w size v n xs) (hb : w.heap[b]? = some (.cells #[.slice a1 n1 c1, .slice a2 n2 c2] t (0, 0)))
    (hx : ∀ x ∈ xs, ∀ a n c, x ≠ .slice a n c) : Row (w.setCell ⟨b, j, none⟩ u) size v n xs := by
  obtain ⟨h1, ad, c, h2, h3, h4⟩ := h
  exact ⟨h1, ad, c, h2, h3, fun j x hj => by
    obtain ⟨a, ha, hc⟩ := h4 j x hj
    exact ⟨a, ha, cell_apart hb (hx x (List.mem_of_getElem? hj)) hc⟩⟩
theorem strVals_no (l : List (List UInt8)) : ∀ x ∈ strVals l, ∀ a n c, x ≠ .slice a n c := by
  intro x hx a n c
  unfold strVals at hx
  rw [List.mem_map] at hx
  obtain ⟨b, _, rfl⟩ := hx
  simp
theorem wrVals_no (l : List Wr) : ∀ x ∈ wrVals l, ∀ a n c, x ≠ .slice a n c := by
  intro x hx a n c
  unfold wrVals at hx
  rw [List.mem_flatMap] at hx
  obtain ⟨b, _, hb⟩ := hx
  simp at hb
  rcases hb with rfl | rfl <;> simp
theorem disk_apart {w : World} {d : Dev} {v u : Value} {b j t : Nat} {a1 a2 : Option Addr} {n1 c1 n2 c2 : Nat} (h : DiskIs w d v) (hb : w.heap[b]? = some (.cells #[.slice a1 n1 c1, .slice a2 n2 c2] t (0, 0))) : DiskIs (w.setCell ⟨b, j, none⟩ u) d v := by
  obtain ⟨vb, vc, h1, h2, h3⟩ := h
  exact ⟨vb, vc, h1, h2.apart hb (strVals_no _), h3.apart hb (wrVals_no _)⟩
theorem top_cell {w w' : World} {o : Obj} (hb : Below (w.alloc o).heap.size (w.alloc o) w') : w'.heap[w.heap.size]? = some o := heap_below (World.alloc_heap_new w o) hb

theorem cell_far2 {w : World} {a : Addr} {x u u' : Value} {g j j' : Nat} (h : w.cell? a = some x) (hne : a.block ≠ g) : ((w.setCell ⟨g, j, none⟩ u).setCell ⟨g, j', none⟩ u').cell? a = some x := by
  have hl := cell_lt h
  have e1 := (grown_cell w g j u).block a.block hl (fun e => hne (by cases e; rfl))
  have e2 := (grown_cell (w.setCell ⟨g, j, none⟩ u) g j' u').block a.block (Nat.lt_of_lt_of_le hl (grown_cell w g j u).size) (fun e => hne (by cases e; rfl))
  unfold World.cell? at h ⊢
  rw [e2, e1]; exact h
theorem below_drewN {B : Nat} {a w : World} (h : Below B a w) (n : Nat) : Below B a (w.drewN n) := ⟨h.os, h.tape, h.output, h.size, h.block⟩
end Go.Proofs.YthhghggaoljcbaaDoor
