/- The walks of the chapter's device and of what the statements read of it, chapter 11 (disk). -/
import Derived.Test.YtiemlaofhmncdaaDiskH
import Derived.Test.YtiemlaofhmncdaaDiskX
import Derived.Test.YtiemlaofhmncdaaDiskQ
import Derived.Test.YtiemlaofhmncdaaDiskV
import Derived.Test.YtiemlaofhmncdaaDiskU
import Derived.Test.YtiemlaofhmncdaaDiskF
import Derived.Test.YtiemlaofhmncdaaDiskJ
import Derived.Test.YtiemlaofhmncdaaDiskK
import Derived.BigRegion
namespace Go.Proofs.Ytiemlaofhmncdaa
open Go.RowKit Disk11

def new2 : Dev := ([List.replicate 64 0, List.replicate 64 0], [])
def two2 : Dev := ([List.replicate 64 0, List.replicate 64 0], [(62, [97, 98, 99])])
theorem newD2 : newD 2 = (new2, 0) := rfl
theorem writeD2 : writeD new2 62 [97, 98, 99] = (two2, 0) := by decide +kernel

theorem as_disk {B : Nat} {w w' : World} {e : Ending} {r : Dev × Nat} {d : Dev} {k nb nc : Nat} (n : Int) (hr : r = (d, k)) (hk : (k : Int) = n) (hb : d.1.length = nb) (hc : d.2.length = nc)
    (h : ∃ v', e = .returned (.tuple #[v', .int .i64 r.2]) ∧ DiskIs w' r.1 v' ∧ Below B w w') :
    ∃ ab cb ac cc, e = .returned (.tuple #[.agg #[.slice ab nb cb, .slice ac nc cc], .int .i64 n]) ∧ DiskIs w' d (.agg #[.slice ab nb cb, .slice ac nc cc]) ∧ Below B w w' := by
  subst hr hb hc hk
  obtain ⟨v', rfl, hd, hb⟩ := h
  obtain ⟨ab, cb, ac, cc, rfl, _⟩ := hd.form
  exact ⟨ab, cb, ac, cc, rfl, hd, hb⟩
/-- A cell of another block than this row of two slices. -/
theorem cell_apart {w : World} {b j t : Nat} {u x : Value} {a : Addr} {a1 a2 : Option Addr} {n1 c1 n2 c2 : Nat} (hb : w.heap[b]? = some (.cells #[.slice a1 n1 c1, .slice a2 n2 c2] t (0, 0)))
    (hx : ∀ a n c, x ≠ .slice a n c) (h : w.cell? a = some x) : (w.setCell ⟨b, j, none⟩ u).cell? a = some x := by
  have hne : a.block ≠ b := by
    rintro rfl
    unfold World.cell? at h
    rw [hb] at h
    obtain ⟨g, o, p⟩ := a
    match o with
    | 0 => simp at h; exact hx _ _ _ h.2.symm
    | 1 => simp at h; exact hx _ _ _ h.2.symm
    | o + 2 => simp at h
  have hg := (grown_cell w b j u).block a.block (cell_lt h) (fun e => hne (by cases e; rfl))
  unfold World.cell? at h ⊢
  rw [hg]; exact h
theorem Row.apart {w : World} {size n b j t : Nat} {v u : Value} {xs : List Value} {a1 a2 : Option Addr} {n1 c1 n2 c2 : Nat} (h : Row w size v n xs) (hb : w.heap[b]? = some (.cells #[.slice a1 n1 c1, .slice a2 n2 c2] t (0, 0)))
    (hx : ∀ x ∈ xs, ∀ a n c, x ≠ .slice a n c) : Row (w.setCell ⟨b, j, none⟩ u) size v n xs := by
  obtain ⟨h1, ad, c, h2, h3, h4⟩ := h
  exact ⟨h1, ad, c, h2, h3, fun j x hj => by
    obtain ⟨a, ha, hc⟩ := h4 j x hj
    exact ⟨a, ha, cell_apart hb (hx x (List.mem_of_getElem? hj)) hc⟩⟩
theorem strVals_no (l : List (List UInt8)) : ∀ x ∈ strVals l, ∀ a n c, x ≠ .slice a n c := by
  intro x hx a n c
  unfold strVals at hx
  rw [List.mem_map] at hx
  obtain ⟨b, _, rfl⟩ := hx
  simp
theorem wrVals_no (l : List Wr) : ∀ x ∈ wrVals l, ∀ a n c, x ≠ .slice a n c := by
  intro x hx a n c
  unfold wrVals at hx
  rw [List.mem_flatMap] at hx
  obtain ⟨b, _, hb⟩ := hx
  simp at hb
  rcases hb with rfl | rfl <;> simp
theorem disk_apart {w : World} {d : Dev} {v u : Value} {b j t : Nat} {a1 a2 : Option Addr} {n1 c1 n2 c2 : Nat} (h : DiskIs w d v) (hb : w.heap[b]? = some (.cells #[.slice a1 n1 c1, .slice a2 n2 c2] t (0, 0))) : DiskIs (w.setCell ⟨b, j, none⟩ u) d v := by
  obtain ⟨vb, vc, h1, h2, h3⟩ := h
  exact ⟨vb, vc, h1, h2.apart hb (strVals_no _), h3.apart hb (wrVals_no _)⟩
theorem top_cell {w w' : World} {o : Obj} (hb : Below (w.alloc o).heap.size (w.alloc o) w') : w'.heap[w.heap.size]? = some o := heap_below (World.alloc_heap_new w o) hb

set_option maxHeartbeats 2000000 in
set_option maxRecDepth 100000 in
theorem two_any (w : World) :
    Calls Try.prog 22 #[] w fun e w' => ∃ ab cb ac cc, e = .returned (.tuple #[.agg #[.slice ab 2 cb, .slice ac 1 cc], .bool true]) ∧ DiskIs w' two2 (.agg #[.slice ab 2 cb, .slice ac 1 cc]) ∧ Below w.heap.size w w' := by
  have HN := Lib.hid (fun W => (New_any 2 W).mono (fun _ _ => as_disk (nb := 2) (nc := 0) 0 newD2 rfl rfl rfl))
  have HW := Lib.hid (fun v W h => (Write_any new2 v 62 [97, 98, 99] W h).mono (fun _ _ => as_disk (nb := 2) (nc := 1) 0 writeD2 rfl rfl rfl))
  have k0 := World.alloc_heap_new w (.cells #[.slice none 0 0, .slice none 0 0] 25)
  have b0 := Go.Joins.below_alloc1 w (.cells #[.slice none 0 0, .slice none 0 0] 25)
  go_enter Try.func22, Try.ntmps22
  go_wp2_with fail
  refine (HN.out _).mono ?_
  rintro e w1 ⟨ab, cb, ac, cc, rfl, d1, b1⟩
  have k1 := heap_below k0 b1
  have t1 := b0.trans (b1.mono b0.size)
  have a1 := Go.Joins.below_alloc1 w1 (.cells #[.slice ab 2 cb, .slice ac 0 cc] 25)
  have k1' := heap_below k1 a1
  go_wp2_with fail
  refine (HW.out _ _ (d1.below a1)).mono ?_
  rintro e w2 ⟨ab2, cb2, ac2, cc2, rfl, d2, b2⟩
  have k2 := heap_below k1' b2
  have t2 := (t1.trans (a1.mono t1.size)).trans (b2.mono (t1.trans (a1.mono t1.size)).size)
  have a2 := Go.Joins.below_alloc1 w2 (.cells #[.slice ab2 2 cb2, .slice ac2 1 cc2] 25)
  have k3 := heap_below k2 a2
  have q0 := cell2_0 k3
  have q1 := cell2_1 k3
  have f0 := frozen2 k3 0
  have f1 := frozen2 k3 1
  have t3 := t2.trans (a2.mono t2.size)
  have d3 := d2.below a2
  have g0 := cell2_0 (World.alloc_heap_new w2 (.cells #[.slice ab2 2 cb2, .slice ac2 1 cc2] 25))
  have g1 := cell2_1 (World.alloc_heap_new w2 (.cells #[.slice ab2 2 cb2, .slice ac2 1 cc2] 25))
  have hlt : w.heap.size < w2.heap.size := (Array.getElem?_eq_some_iff.1 k2).1
  clear k0 b0 k1 a1 k1' k2 a2
  go_wp2
  generalize (w2.alloc (.cells #[.slice ab2 2 cb2, .slice ac2 1 cc2] 25)) = W at *
  generalize w2.heap.size = g at *
  have hne1 : ¬ w.heap.size = g := by omega
  have hne2 : ¬ g = w.heap.size := by omega
  have hH := Lib.hid (And.intro k3 (And.intro t3 d3))
  clear k3 t3 d3 d1 d2 t1 t2 b1 b2 hlt
  go_region
  all_goals go_wp2
  all_goals
    obtain ⟨k3, t3, d3⟩ := hH.out
    refine bodyPost_ret (results_cell_tmp rfl _ _ w.heap.size _ _ _ _ rfl (set_two k3) Try.underlying25 rfl (by kernel_rfl)) rfl ⟨_, _, _, _, rfl, ?_, ?_⟩
    · exact (disk_apart (disk_apart d3 k3) (Lib.heap_setCell_same (i := 0) k3 _)).drew
    · exact (below_set (below_set t3 (Nat.le_refl _)) (Nat.le_refl _)).drew

set_option maxHeartbeats 2000000 in
set_option maxRecDepth 100000 in
theorem reads_any (d : Dev) (v : Value) (p : Int) (x : List UInt8) (w : World) (h : DiskIs w d v) :
    Calls Try.prog 26 #[v, .int .i64 p, .string ⟨x.toArray⟩] w fun e w' => e = .returned (.bool (((readD d p x.length).2 == 0) && ((readD d p x.length).1 == x))) ∧ Below w.heap.size w w' := by
  have HR := Lib.hid (fun W h => Read_any d v p x.length W h)
  obtain ⟨r, hr⟩ : ∃ r, r = readD d p x.length := ⟨_, rfl⟩
  rw [← hr] at HR ⊢
  clear hr
  obtain ⟨y, k⟩ := r
  dsimp only at HR ⊢
  obtain ⟨q, hq⟩ : ∃ q, q = ((k == 0) && (y == x)) := ⟨_, rfl⟩
  rw [← hq]
  have hD := Lib.hid h
  obtain ⟨ab, cb, ac, cc, rfl, _, _, _, _⟩ := h.form
  clear h
  have b0 := Go.Joins.below_alloc1 w (.cells #[.slice ab d.1.length cb, .slice ac d.2.length cc] 25)
  by_cases hk : k = 0
  · subst hk
    rw [show ((0 : Nat) == 0) = true from rfl, Bool.true_and] at hq
    cases hxy : (y == x) with
    | true =>
      rw [hxy] at hq
      have hHq := Lib.hid hq
      clear hq
      have hxy' : (y == x) = true := hxy
      go_enter Try.func26, Try.ntmps26
      go_wp2_with fail
      refine (HR.out _ (hD.out.below b0)).mono ?_
      rintro e w1 ⟨rfl, b1⟩
      go_wp2
      go_ret
      exact ⟨by rw [hHq.out]; rfl, b0.trans (b1.mono b0.size)⟩
    | false =>
      rw [hxy] at hq
      have hHq := Lib.hid hq
      clear hq
      go_enter Try.func26, Try.ntmps26
      go_wp2_with fail
      refine (HR.out _ (hD.out.below b0)).mono ?_
      rintro e w1 ⟨rfl, b1⟩
      go_wp2
      go_ret
      exact ⟨by rw [hHq.out]; rfl, b0.trans (b1.mono b0.size)⟩
  · have hk' : ((k : Int) == 0) = false := by simp; omega
    rw [show (k == 0) = false by simpa using hk, Bool.false_and] at hq
    have hHq := Lib.hid hq
    clear hq hk
    go_enter Try.func26, Try.ntmps26
    go_wp2_with fail
    refine (HR.out _ (hD.out.below b0)).mono ?_
    rintro e w1 ⟨rfl, b1⟩
    go_wp2
    go_ret
    exact ⟨by rw [hHq.out]; rfl, b0.trans (b1.mono b0.size)⟩
end Go.Proofs.Ytiemlaofhmncdaa
