/- Small laws at this dump: slices of numbers that the call itself makes. -/
import Derived.Test.YtcpahelmaejjeaaDoorKitB
namespace Go.Proofs.YtcpahelmaejjeaaDoor
open Go.RowKit

theorem infoInt : (Tryd.prog.info? 3).map (fun i => (i.zero, i.size, i.bytes)) = some (some (.int .i64 0), 1, 8) := by kernel_rfl
def intVals (l : List Nat) : List Value := l.map fun (b : Nat) => Value.int .i64 (b : Int)
theorem intVals_append (a b : List Nat) : intVals (a ++ b) = intVals a ++ intVals b := List.map_append
theorem intVals_length (a : List Nat) : (intVals a).length = a.length := List.length_map _
theorem intVals_get (a : List Nat) (j : Nat) : (intVals a)[j]? = (a[j]?).map fun (b : Nat) => Value.int .i64 (b : Int) := List.getElem?_map ..

/-- v is a slice of the call's own (from block base on) that holds just these numbers. -/
def Ints (w : World) (base : Nat) (v : Value) (l : List Nat) : Prop := w.ownsRow base 3 1 v l.length (intVals l)
theorem Ints.nil (w : World) (base : Nat) : Ints w base (.slice none 0 0) [] := World.ownsRow_nil _ _ _ _
theorem Ints.alloc {w : World} {base : Nat} {v : Value} {l : List Nat} (h : Ints w base v l) (o : Obj) : Ints (w.alloc o) base v l := World.ownsRow.alloc h o
theorem Ints.drew {w : World} {base : Nat} {v : Value} {l : List Nat} (h : Ints w base v l) : Ints w.drew base v l := World.ownsRow.drew h
theorem Ints.below {w w' : World} {base : Nat} {v : Value} {l : List Nat} (h : Ints w base v l) (hb : Below w.heap.size w w') : Ints w' base v l := by
  refine ⟨h.1, ?_⟩
  rcases h.2 with h1 | ⟨g, cap, cur, hv, hg, hh, r⟩
  · exact Or.inl h1
  · have hlt : g < w.heap.size := (Array.getElem?_eq_some_iff.1 hh).1
    exact Or.inr ⟨g, cap, cur, hv, hg, by rw [hb.block g hlt]; exact hh, r⟩
theorem Ints.form {w : World} {base : Nat} {v : Value} {l : List Nat} (h : Ints w base v l) : (v = .slice none 0 0 ∧ l = []) ∨ ∃ g cap, v = .slice (some ⟨g, 0, none⟩) l.length cap ∧ base ≤ g := by
  rcases h.2 with ⟨h1, h2⟩ | ⟨g, cap, _, hv, hb, _⟩
  · exact Or.inl ⟨h1, List.length_eq_zero_iff.1 h2⟩
  · exact Or.inr ⟨g, cap, hv, hb⟩
theorem Ints.lower {w : World} {B B' : Nat} {v : Value} {l : List Nat} (h : Ints w B v l) (hB : B' ≤ B) : Ints w B' v l := by
  refine ⟨h.1, ?_⟩
  rcases h.2 with h1 | ⟨g, cap, cur, hv, hg, r⟩
  · exact Or.inl h1
  · exact Or.inr ⟨g, cap, cur, hv, Nat.le_trans hB hg, r⟩
theorem Ints.slice {w : World} {B : Nat} {v : Value} {l : List Nat} (h : Ints w B v l) : ∃ ad c, v = .slice ad l.length c := by
  rcases h.form with ⟨e, e2⟩ | ⟨g, cap, e, _⟩
  · exact ⟨_, _, by rw [e, e2]; rfl⟩
  · exact ⟨_, _, e⟩
theorem Ints.cell {w : World} {base g cap n : Nat} {l : List Nat} (h : Ints w base (.slice (some ⟨g, 0, none⟩) n cap) l) (j : Nat) (hj : j < l.length) : w.cell? ⟨g, j, none⟩ = some (.int .i64 (l[j] : Int)) := by
  have hn : n = l.length := by
    rcases h.2 with ⟨h1, _⟩ | ⟨_, _, _, hv, _⟩
    · cases h1
    · simp only [Value.slice.injEq] at hv; exact hv.2.1
  subst hn
  have := World.ownsRow.cellAt h j (by omega)
  rw [this, intVals_get, List.getElem?_eq_getElem hj]; rfl

set_option maxRecDepth 100000 in
/-- 'b = append(b, x)', x one number. -/
theorem app_int {ops : Array Oper} {rest : List Oper} {o : Oper} {a : Act} {Q : Exit → Act → World → Prop} {w : World} {s x : Operand} {v : Value} {l : List Nat} {n : Nat} (hgd : o.guard = none)
    (ho : o.op = .call { callee := .builtin .append, args := #[s, x], argTypes := #[37, 37] })
    (base : Nat) (hs : a.eval s = v) (hown : Ints w base v l) (hx : a.eval x = .slice (some ⟨w.heap.size, 0, none⟩) 1 1)
    (hlen : l.length < 4398046511104) (hbase : base ≤ w.heap.size)
    (h : ∀ g cap w', Ints w' base (.slice (some ⟨g, 0, none⟩) (l.length + 1) cap) (l ++ [n]) → Below base w w' → base ≤ g → w.grownBy w' v.ownBlock → wpList Tryd.prog ops Q rest (a.put o.dst (.slice (some ⟨g, 0, none⟩) (l.length + 1) cap)) w') :
    wpList Tryd.prog ops Q (o :: rest) a (w.alloc (.cells #[.int .i64 (n : Int)] 3)) := by
  obtain ⟨i0, hi, hz0, hz1, hz2⟩ := info_parts infoInt
  refine wpList_append_own _ hgd s x 37 ho base 3 i0 (.int .i64 0) 1 8 Tryd.underlying37 hi hz0 hz1 hz2 rfl (by decide) v _ _ hs (World.ownsRow.alloc hown _) ⟨w.heap.size, 0, none⟩ 1 1 [.int .i64 (n : Int)] hx rfl
    (cell_one_new _ _ _) (by intro u hu; simp at hu; subst hu; rfl) (by unfold maxLen; omega) (by omega) (by simp; omega) ?_
  intro v' w' hown' hgrow _
  have e : intVals l ++ [.int .i64 (n : Int)] = intVals (l ++ [n]) := by
    rw [intVals_append]; rfl
  rw [e] at hown'
  have hbuf : Ints w' base v' (l ++ [n]) := by unfold Ints; rw [List.length_append]; exact hown'
  have hb : Below base w w' := ((Below.refl base w).alloc hbase _).grown hgrow (by simp; omega) (fun k hk => (World.ownsRow.lt hown k hk).1)
  have hg2 : w.grownBy w' v.ownBlock := by
    refine ⟨hgrow.os, hgrow.tape, hgrow.output, Nat.le_trans (by simp) hgrow.size, fun k hk hne => ?_⟩
    rw [hgrow.block k (by simp; omega) hne]
    exact Below.heap_alloc w _ k hk
  rcases hbuf.form with ⟨_, hn⟩ | ⟨g, cap, rfl, hg⟩
  · simp at hn
  · rw [List.length_append] at hbuf ⊢
    exact h g cap w' hbuf hb hg hg2
end Go.Proofs.YtcpahelmaejjeaaDoor
