/- Small laws: slices that are read, wherever they lie. -/
import Derived.Test.YtbcofimmfbmkoaaDoorKitS
import Derived.DataElems
import Derived.RangeFuncRecord
namespace Go.Proofs.YtbcofimmfbmkoaaDoor
open Go.RowKit

theorem cell1 {w : World} {b t : Nat} {x : Value} (h : w.heap[b]? = some (.cells #[x] t (0, 0))) : w.cell? ⟨b, 0, none⟩ = some x := by simp [World.cell?, h]
theorem frozen1 {w : World} {b t : Nat} {x : Value} (h : w.heap[b]? = some (.cells #[x] t (0, 0))) : w.frozen? ⟨b, 0, none⟩ = false := by simp [World.frozen?, h]
theorem cell2_0 {w : World} {b t : Nat} {x y : Value} (h : w.heap[b]? = some (.cells #[x, y] t (0, 0))) : w.cell? ⟨b, 0, none⟩ = some x := by simp [World.cell?, h]
theorem cell2_1 {w : World} {b t : Nat} {x y : Value} (h : w.heap[b]? = some (.cells #[x, y] t (0, 0))) : w.cell? ⟨b, 1, none⟩ = some y := by simp [World.cell?, h]
theorem frozen2 {w : World} {b t : Nat} {x y : Value} (h : w.heap[b]? = some (.cells #[x, y] t (0, 0))) (j : Nat) : w.frozen? ⟨b, j, none⟩ = false := by simp [World.frozen?, h]
theorem cell_next {w : World} {a : Addr} {i : Nat} {x : Value} (h : w.cell? (a.add (i + 1)) = some x) : w.cell? { block := (a.add i).block, off := (a.add i).off + 1 } = some x := by
  have e : a.add (i + 1) = { block := (a.add i).block, off := (a.add i).off + 1 } := by
    unfold Addr.add
    rw [if_neg (by omega)]
    by_cases hi : i = 0
    · simp [hi]
    · simp [hi]; omega
  rw [← e]; exact h
theorem heap_below {w w' : World} {b : Nat} {o : Obj} (h : w.heap[b]? = some o) (hb : Below w.heap.size w w') : w'.heap[b]? = some o := (hb.block b (Array.getElem?_eq_some_iff.1 h).1).trans h

theorem alloc2 (w : World) (a b : Obj) : ((w.alloc a).alloc b).heap[w.heap.size]? = some a ∧ ((w.alloc a).alloc b).heap[w.heap.size + 1]? = some b ∧ ((w.alloc a).alloc b).heap.size = w.heap.size + 2 ∧ Below w.heap.size w ((w.alloc a).alloc b) := by
  have e1 : (w.alloc a).heap.size = w.heap.size + 1 := World.size_alloc ..
  have h1 := World.alloc_heap_new w a
  have h2 := World.alloc_heap_new (w.alloc a) b
  rw [e1] at h2
  refine ⟨?_, h2, by rw [World.size_alloc, e1], Go.Joins.below_alloc2 w a b⟩
  rw [Below.heap_alloc _ _ _ (by omega)]; exact h1

/-- v is a slice of n elements of so many cells each; its cells hold xs. -/
def Row (w : World) (size : Nat) (v : Value) (n : Nat) (xs : List Value) : Prop :=
  xs.length = n * size ∧ ∃ ad c, v = .slice ad n c ∧ n ≤ c ∧ ∀ j x, xs[j]? = some x → ∃ a, ad = some a ∧ w.cell? (a.add j) = some x
theorem cell_lt {w : World} {a : Addr} {x : Value} (h : w.cell? a = some x) : a.block < w.heap.size := by
  rcases Nat.lt_or_ge a.block w.heap.size with k | k
  · exact k
  · unfold World.cell? at h
    rw [Array.getElem?_eq_none k] at h; cases h
theorem cell_below {w w' : World} {a : Addr} {x : Value} (hb : Below w.heap.size w w') (h : w.cell? a = some x) : w'.cell? a = some x := by
  rw [hb.cell (cell_lt h)]; exact h
theorem Row.below {w w' : World} {size n : Nat} {v : Value} {xs : List Value} (h : Row w size v n xs) (hb : Below w.heap.size w w') : Row w' size v n xs := by
  obtain ⟨h1, ad, c, h2, h3, h4⟩ := h
  exact ⟨h1, ad, c, h2, h3, fun j x hx => by obtain ⟨a, ha, hc⟩ := h4 j x hx; exact ⟨a, ha, cell_below hb hc⟩⟩
theorem Row.drew {w : World} {size n : Nat} {v : Value} {xs : List Value} (h : Row w size v n xs) : Row w.drew size v n xs := h.below (Below.refl _ w).drew
theorem Row.alloc {w : World} {size n : Nat} {v : Value} {xs : List Value} (h : Row w size v n xs) (o : Obj) : Row (w.alloc o) size v n xs := h.below (Go.Joins.below_alloc1 w o)
theorem Row.slice {w : World} {size n : Nat} {v : Value} {xs : List Value} (h : Row w size v n xs) : ∃ ad c, v = .slice ad n c ∧ n ≤ c := by
  obtain ⟨_, ad, c, h2, h3, _⟩ := h
  exact ⟨ad, c, h2, h3⟩
theorem Row.cell {w : World} {size n c : Nat} {ad : Option Addr} {xs : List Value} (h : Row w size (.slice ad n c) n xs) {j : Nat} {x : Value} (hj : xs[j]? = some x) : ∃ a, ad = some a ∧ w.cell? (a.add j) = some x := by
  obtain ⟨_, ad', c', h2, h3, h4⟩ := h
  cases h2
  exact h4 j x hj
theorem Row.nil (w : World) (size : Nat) : Row w size (.slice none 0 0) 0 [] := ⟨by simp, _, _, rfl, Nat.le_refl _, fun j x h => by simp at h⟩
theorem Row.of_own {w : World} {base e size n : Nat} {v : Value} {xs : List Value} (h : w.ownsRow base e size v n xs) : Row w size v n xs := by
  refine ⟨h.1, ?_⟩
  rcases h.2 with ⟨rfl, rfl⟩ | ⟨g, cap, cur, rfl, hb, hg, hn, hr⟩
  · refine ⟨_, _, rfl, Nat.le_refl _, fun j x hx => ?_⟩
    have := h.1
    rw [Nat.zero_mul] at this
    rw [List.length_eq_zero_iff.1 this] at hx; simp at hx
  · refine ⟨_, _, rfl, hn, fun j x hx => ⟨_, rfl, ?_⟩⟩
    have hj : j < n * size := by
      rw [← h.1]
      rcases Nat.lt_or_ge j xs.length with k | k
      · exact k
      · rw [List.getElem?_eq_none k] at hx; cases hx
    rw [addr_add, World.ownsRow.cellAt h j hj, hx]

theorem own_below {w w' : World} {base e size n : Nat} {v : Value} {xs : List Value} (h : w.ownsRow base e size v n xs) (hb : Below w.heap.size w w') : w'.ownsRow base e size v n xs := by
  refine ⟨h.1, ?_⟩
  rcases h.2 with h1 | ⟨g, cap, cur, hv, hg, hh, r⟩
  · exact Or.inl h1
  · exact Or.inr ⟨g, cap, cur, hv, hg, heap_below hh hb, r⟩
theorem own_lower {w : World} {B B' e size n : Nat} {v : Value} {xs : List Value} (h : w.ownsRow B e size v n xs) (hB : B' ≤ B) : w.ownsRow B' e size v n xs := by
  refine ⟨h.1, ?_⟩
  rcases h.2 with h1 | ⟨g, cap, cur, hv, hg, r⟩
  · exact Or.inl h1
  · exact Or.inr ⟨g, cap, cur, hv, Nat.le_trans hB hg, r⟩
theorem own_slice {w : World} {base e size n : Nat} {v : Value} {xs : List Value} (h : w.ownsRow base e size v n xs) : ∃ ad c, v = .slice ad n c := by
  rcases h.2 with ⟨h1, h2⟩ | ⟨g, cap, cur, hv, _⟩
  · exact ⟨_, _, by rw [h1, h2]⟩
  · exact ⟨_, _, hv⟩
theorem grown_cell (W : World) (b j : Nat) (u : Value) : W.grownBy (W.setCell ⟨b, j, none⟩ u) (some b) :=
  ⟨rfl, rfl, rfl, by simp [World.setCell, Array.size_modify], fun k _ hk => Below.heap_setCell _ _ _ k (fun e => hk (by rw [e]))⟩
theorem own_set {w : World} {B e size n b j : Nat} {v u : Value} {xs : List Value} (h : w.ownsRow B e size v n xs) (hb : b < B) : (w.setCell ⟨b, j, none⟩ u).ownsRow B e size v n xs :=
  World.ownsRow.kept h (grown_cell w b j u) (by
    rcases h.2 with ⟨rfl, _⟩ | ⟨g, cap, cur, rfl, hg, _⟩
    · exact Or.inl rfl
    · exact Or.inr (fun e => by simp only [Value.ownBlock, Option.some.injEq] at e; omega))
theorem below_set {w w1 : World} {B b j : Nat} {u : Value} (h : Below B w w1) (hb : B ≤ b) : Below B w (w1.setCell ⟨b, j, none⟩ u) := h.setCell (p := ⟨b, j, none⟩) hb u
theorem strVals_at (l : List (List UInt8)) (i : Nat) (h : i < l.length) : (strVals l)[i]? = some (.string ⟨l[i].toArray⟩) := by
  rw [strVals_get, List.getElem?_eq_getElem h]; rfl
end Go.Proofs.YtbcofimmfbmkoaaDoor
