/- Small laws at this dump: slices of texts that the call itself makes. -/
import Derived.Test.YtbcofimmfbmkoaaDoorKitB
namespace Go.Proofs.YtbcofimmfbmkoaaDoor
open Go.RowKit

theorem infoStr : (Tryd.prog.info? 9).map (fun i => (i.zero, i.size, i.bytes)) = some (some (.string ⟨#[]⟩), 1, 16) := by kernel_rfl
def strVals (l : List (List UInt8)) : List Value := l.map fun b => .string ⟨b.toArray⟩
theorem strVals_append (a b : List (List UInt8)) : strVals (a ++ b) = strVals a ++ strVals b := List.map_append
theorem strVals_length (a : List (List UInt8)) : (strVals a).length = a.length := List.length_map _
theorem strVals_get (a : List (List UInt8)) (j : Nat) : (strVals a)[j]? = (a[j]?).map fun b => Value.string ⟨b.toArray⟩ := List.getElem?_map ..

/-- v is a slice of the call's own (from block base on) that holds just these texts. -/
def Txt (w : World) (base : Nat) (v : Value) (l : List (List UInt8)) : Prop := w.ownsRow base 9 1 v l.length (strVals l)
theorem Txt.nil (w : World) (base : Nat) : Txt w base (.slice none 0 0) [] := World.ownsRow_nil _ _ _ _
theorem Txt.alloc {w : World} {base : Nat} {v : Value} {l : List (List UInt8)} (h : Txt w base v l) (o : Obj) : Txt (w.alloc o) base v l := World.ownsRow.alloc h o
theorem Txt.drew {w : World} {base : Nat} {v : Value} {l : List (List UInt8)} (h : Txt w base v l) : Txt w.drew base v l := World.ownsRow.drew h
theorem Txt.below {w w' : World} {base : Nat} {v : Value} {l : List (List UInt8)} (h : Txt w base v l) (hb : Below w.heap.size w w') : Txt w' base v l := by
  refine ⟨h.1, ?_⟩
  rcases h.2 with h1 | ⟨g, cap, cur, hv, hg, hh, r⟩
  · exact Or.inl h1
  · have hlt : g < w.heap.size := (Array.getElem?_eq_some_iff.1 hh).1
    exact Or.inr ⟨g, cap, cur, hv, hg, by rw [hb.block g hlt]; exact hh, r⟩
theorem Txt.form {w : World} {base : Nat} {v : Value} {l : List (List UInt8)} (h : Txt w base v l) : (v = .slice none 0 0 ∧ l = []) ∨ ∃ g cap, v = .slice (some ⟨g, 0, none⟩) l.length cap ∧ base ≤ g := by
  rcases h.2 with ⟨h1, h2⟩ | ⟨g, cap, _, hv, hb, _⟩
  · exact Or.inl ⟨h1, List.length_eq_zero_iff.1 h2⟩
  · exact Or.inr ⟨g, cap, hv, hb⟩
theorem Txt.lower {w : World} {B B' : Nat} {v : Value} {l : List (List UInt8)} (h : Txt w B v l) (hB : B' ≤ B) : Txt w B' v l := by
  refine ⟨h.1, ?_⟩
  rcases h.2 with h1 | ⟨g, cap, cur, hv, hg, r⟩
  · exact Or.inl h1
  · exact Or.inr ⟨g, cap, cur, hv, Nat.le_trans hB hg, r⟩
theorem Txt.slice {w : World} {B : Nat} {v : Value} {l : List (List UInt8)} (h : Txt w B v l) : ∃ ad c, v = .slice ad l.length c := by
  rcases h.form with ⟨e, e2⟩ | ⟨g, cap, e, _⟩
  · exact ⟨_, _, by rw [e, e2]; rfl⟩
  · exact ⟨_, _, e⟩
theorem results_tmp3' {fn : Func} {t u v : Tmp} (h : fn.results = #[.tmp t, .tmp u, .tmp v]) (tmps : Array Value) (P : Program) (w : World) : (results fn tmps).run P w = .ok (.tuple #[tmps.getD t undef, tmps.getD u undef, tmps.getD v undef]) w := by
  simp [results, h]
theorem results_tmp4 {fn : Func} {t u v x : Tmp} (h : fn.results = #[.tmp t, .tmp u, .tmp v, .tmp x]) (tmps : Array Value) (P : Program) (w : World) : (results fn tmps).run P w = .ok (.tuple #[tmps.getD t undef, tmps.getD u undef, tmps.getD v undef, tmps.getD x undef]) w := by
  simp [results, h]
theorem Txt.cell {w : World} {base g cap n : Nat} {l : List (List UInt8)} (h : Txt w base (.slice (some ⟨g, 0, none⟩) n cap) l) (j : Nat) (hj : j < l.length) : w.cell? ⟨g, j, none⟩ = some (.string ⟨l[j].toArray⟩) := by
  have hn : n = l.length := by
    rcases h.2 with ⟨h1, _⟩ | ⟨_, _, _, hv, _⟩
    · cases h1
    · simp only [Value.slice.injEq] at hv; exact hv.2.1
  subst hn
  have := World.ownsRow.cellAt h j (by omega)
  rw [this, strVals_get, List.getElem?_eq_getElem hj]; rfl

set_option maxRecDepth 100000 in
/-- 'b = append(b, x)', x one text. -/
theorem app_str {ops : Array Oper} {rest : List Oper} {o : Oper} {a : Act} {Q : Exit → Act → World → Prop} {w : World} {s x : Operand} {v : Value} {l : List (List UInt8)} {n : List UInt8} (hgd : o.guard = none)
    (ho : o.op = .call { callee := .builtin .append, args := #[s, x], argTypes := #[55, 55] })
    (base : Nat) (hs : a.eval s = v) (hown : Txt w base v l) (hx : a.eval x = .slice (some ⟨w.heap.size, 0, none⟩) 1 1)
    (hlen : l.length < 4398046511104) (hbase : base ≤ w.heap.size)
    (h : ∀ g cap w', Txt w' base (.slice (some ⟨g, 0, none⟩) (l.length + 1) cap) (l ++ [n]) → Below base w w' → base ≤ g → w.grownBy w' v.ownBlock → wpList Tryd.prog ops Q rest (a.put o.dst (.slice (some ⟨g, 0, none⟩) (l.length + 1) cap)) w') :
    wpList Tryd.prog ops Q (o :: rest) a (w.alloc (.cells #[.string ⟨n.toArray⟩] 9)) := by
  obtain ⟨i0, hi, hz0, hz1, hz2⟩ := info_parts infoStr
  refine wpList_append_own _ hgd s x 55 ho base 9 i0 (.string ⟨#[]⟩) 1 16 Tryd.underlying55 hi hz0 hz1 hz2 rfl (by decide) v _ _ hs (World.ownsRow.alloc hown _) ⟨w.heap.size, 0, none⟩ 1 1 [.string ⟨n.toArray⟩] hx rfl
    (cell_one_new _ _ _) (by intro u hu; simp at hu; subst hu; rfl) (by unfold maxLen; omega) (by omega) (by simp; omega) ?_
  intro v' w' hown' hgrow _
  have e : strVals l ++ [.string ⟨n.toArray⟩] = strVals (l ++ [n]) := by
    rw [strVals_append]; rfl
  rw [e] at hown'
  have hbuf : Txt w' base v' (l ++ [n]) := by unfold Txt; rw [List.length_append]; exact hown'
  have hb : Below base w w' := ((Below.refl base w).alloc hbase _).grown hgrow (by simp; omega) (fun k hk => (World.ownsRow.lt hown k hk).1)
  have hg2 : w.grownBy w' v.ownBlock := by
    refine ⟨hgrow.os, hgrow.tape, hgrow.output, Nat.le_trans (by simp) hgrow.size, fun k hk hne => ?_⟩
    rw [hgrow.block k (by simp; omega) hne]
    exact Below.heap_alloc w _ k hk
  rcases hbuf.form with ⟨_, hn⟩ | ⟨g, cap, rfl, hg⟩
  · simp at hn
  · rw [List.length_append] at hbuf ⊢
    exact h g cap w' hbuf hb hg hg2
end Go.Proofs.YtbcofimmfbmkoaaDoor
