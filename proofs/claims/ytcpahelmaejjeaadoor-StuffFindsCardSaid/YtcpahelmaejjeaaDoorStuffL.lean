/- The walks of the statements StuffBack and StuffOnly. -/
import Derived.Test.YtcpahelmaejjeaaDoorStuffG
namespace Go.Proofs.YtcpahelmaejjeaaDoor
open Go.RowKit Go.Shelf Stuff10

theorem andThen {a b c : World} (h : Below a.heap.size a b) (k : Below b.heap.size b c) : Below a.heap.size a c := h.trans (k.mono h.size)
theorem toArray_toList (l : List UInt8) : (⟨l.toArray⟩ : ByteArray).data.toList = l := rfl
theorem size_mk (l : List UInt8) : (⟨l.toArray⟩ : ByteArray).size = l.length := rfl

/-- The form of s is f, and f is read back: puts answers true. -/
theorem puts_true (s f : ByteArray) (hs : s.size ≤ 20000) (hf : put s.data.toList = f.data.toList) (w : World) :
    Calls Tryd.prog 29 #[.string s, .string f] w fun e w' => e = .returned (.bool true) ∧ Below w.heap.size w w' := by
  have hsz := (put_sizes _ s.data.toList (Nat.le_refl _)).2.2
  rw [length_size, hf, length_size] at hsz
  have hp := put_any s hs w
  rw [hf, whole] at hp
  have hg : ∀ W, Calls Tryd.prog 13 #[.string f] W fun e w' => e = .returned (.tuple #[.string s, .agg #[.int .i64 0, .int .i64 0]]) ∧ Below W.heap.size W w' := by
    intro W
    have h := Get_any f (by omega) W
    rw [← hf, get_put] at h
    exact h
  have HG := Lib.hid hg
  have HP := Lib.hid hp
  clear hg hp hf
  go_enter Tryd.func29, Tryd.ntmps29
  go_wp2_with fail
  refine HP.out.mono ?_
  rintro e w1 ⟨rfl, hb1⟩
  go_wp2_with fail
  refine (HG.out w1).mono ?_
  rintro e w2 ⟨rfl, hb2⟩
  go_wp2
  go_ret
  exact ⟨rfl, (andThen hb1 hb2).alloc (andThen hb1 hb2).size _⟩

theorem put_ex1 : put [17, 34, 0, 51] = [3, 17, 34, 2, 51] := by decide
theorem put_ex2 : put [] = [1] := by decide
theorem get_ex1 : getS [3, 0, 34] = ([], 3, 1) := by decide

/-- The chapter's examples that every statement asks. -/
theorem awake_any (w : World) :
    Calls Tryd.prog 11 #[] w fun e w' => e = .returned (.bool true) ∧ Below w.heap.size w w' := by
  have h1 : Calls Tryd.prog 13 #[.string ⟨#[3, 0, 34]⟩] w fun e w' => e = .returned (.tuple #[.string ⟨#[]⟩, .agg #[.int .i64 3, .int .i64 1]]) ∧ Below w.heap.size w w' := by
    have h := Get_any ⟨#[3, 0, 34]⟩ (by decide) w
    rw [show (⟨#[3, 0, 34]⟩ : ByteArray).data.toList = [3, 0, 34] from rfl, get_ex1] at h
    exact h
  have h2 := fun W => puts_true ⟨#[17, 34, 0, 51]⟩ ⟨#[3, 17, 34, 2, 51]⟩ (by decide) put_ex1 W
  have h3 := fun W => puts_true ⟨#[]⟩ ⟨#[1]⟩ (by decide) put_ex2 W
  have H1 := Lib.hid h1
  have H2 := Lib.hid h2
  have H3 := Lib.hid h3
  clear h1 h2 h3
  go_enter Tryd.func11, Tryd.ntmps11
  go_wp2_with fail
  refine H1.out.mono ?_
  rintro e w1 ⟨rfl, hb1⟩
  go_wp2_with fail
  refine (H2.out _).mono ?_
  rintro e w2 ⟨rfl, hb2⟩
  have hb2' : Below w1.heap.size w1 w2 := ((Below.refl _ w1).alloc (Nat.le_refl _) _).trans (hb2.mono (by simp))
  have hr : ResAt w2 w1.heap.size 3 1 := (hb2.block _ (by simp)).trans (World.alloc_heap_new w1 _)
  have r0 := hr.c0; have r1 := hr.c1; have f0 := hr.f 0; have f1 := hr.f 1
  clear hb2
  go_wp2_with fail
  refine (H3.out _).mono ?_
  rintro e w3 ⟨rfl, hb3⟩
  have hr3 : ResAt w3 w1.heap.size 3 1 := (hb3.block _ (Nat.lt_of_lt_of_le (Array.getElem?_eq_some_iff.1 hr).1 (Nat.le_refl _))).trans hr
  have r0 := hr3.c0; have r1 := hr3.c1; have f0 := hr3.f 0; have f1 := hr3.f 1
  go_wp2
  go_ret
  exact ⟨rfl, andThen (andThen hb1 hb2') hb3⟩
end Go.Proofs.YtcpahelmaejjeaaDoor
