/- Small laws: arguments that are slices, opened; arguments that a call left alone, read again. -/
import Derived.Test.YtbcofimmfbmkoaaDoorKitR
import Derived.Deep.Slices
import Derived.ChangeStays
import Derived.ReadAgain
import Derived.Lib.SmallJoins
namespace Go.Proofs.YtbcofimmfbmkoaaDoor
open Go.RowKit Go.ChangeShapes Go.WideShapes Go.Deep

section
variable {H : Type} {enc : TypeId × Value → H} {P : Program}
theorem stays_same {w w' : World} (hb : Below w.heap.size w w') (p : MemPlace) (h : p.block < w.heap.size) : w.sameAt w' p := by
  cases p with
  | cell b off => exact hb.cell (p := ⟨b, off, none⟩) h
  | map b => exact hb.block b h
/-- What was read ahead of a call that writes in new memory alone is read the same behind it. -/
theorem trodAll_again (hl : laidOutB P = true) (hm : mapsRowed P = true) (hz : ∀ t e, t < P.types.size → P.underlying t = some (.slice e) → 0 < P.cellsOf e) {w w' : World} (hb : Below w.heap.size w w') :
    ∀ {ts : List TypeId} {vs : List Value} {ds : List (DataW H)} {ps : List MemPlace}, (∀ t ∈ ts, t < P.types.size) → DataW.TrodAll enc P w 0 (fun _ => true) true ts vs ds ps → DataW.TrodAll enc P w' 0 (fun b => decide (b < w.heap.size)) true ts vs ds ps
  | [], [], [], _, _, h => h
  | t :: ts, v :: vs, d :: ds, ps, hT, ⟨p, q, ⟨n, h1⟩, h2, e⟩ => by
    refine ⟨p, q, ⟨n, ?_⟩, trodAll_again hl hm hz hb (fun t ht => hT t (List.mem_cons.2 (Or.inr ht))) h2, e⟩
    have hlt := DataW.trod_lt n _ _ _ h1
    exact DataW.trod_stays (kids_rows hl hm) (fun {t e} ht hu => hz t e ht hu) (fun h => by cases h) (hT t (List.mem_cons.2 (Or.inl rfl))) h1 (fun p hp => stays_same hb p (hlt p hp)) (fun p hp => by simpa using hlt p hp)

theorem rows_of {w : World} {ad : Option Addr} {size : Nat} {α : Type} (f : α → List Value) (good : α → Prop) (hf : ∀ x, (f x).length = size) : ∀ (n : Nat),
    (∀ i, i < n → ∃ x, good x ∧ ∀ j v, (f x)[j]? = some v → ∃ a, ad = some a ∧ w.cell? (a.add (i * size + j)) = some v) →
    ∃ l : List α, l.length = n ∧ (l.flatMap f).length = n * size ∧ (∀ x ∈ l, good x) ∧ ∀ j v, (l.flatMap f)[j]? = some v → ∃ a, ad = some a ∧ w.cell? (a.add j) = some v
  | 0, _ => ⟨[], rfl, by simp, by simp, fun j v h => by simp at h⟩
  | n + 1, h => by
    obtain ⟨l, h1, h2, h3, h4⟩ := rows_of f good hf n (fun i hi => h i (by omega))
    obtain ⟨x, hg, hx⟩ := h n (by omega)
    refine ⟨l ++ [x], by simp [h1], ?_, ?_, fun j v hj => ?_⟩
    · rw [List.flatMap_append, List.length_append, h2, Nat.succ_mul]; simp [hf]
    · intro y hy
      rcases List.mem_append.1 hy with k | k
      · exact h3 y k
      · rw [List.mem_singleton.1 k]; exact hg
    · rw [List.flatMap_append] at hj
      by_cases hlt : j < n * size
      · rw [List.getElem?_append_left (by omega)] at hj
        exact h4 j v hj
      · rw [List.getElem?_append_right (by omega), h2] at hj
        simp only [List.flatMap_cons, List.flatMap_nil, List.append_nil] at hj
        obtain ⟨a, ha, hc⟩ := hx _ v hj
        exact ⟨a, ha, by rw [show n * size + (j - n * size) = j by omega] at hc; exact hc⟩
theorem row_strings {w : World} {base fuel : Nat} {spare : Nat → Bool} {held : Bool} {v : Value} {x : DataW H × List MemPlace} {t e : TypeId} (ht : P.underlying t = some (.slice e)) (he : P.underlying e = some .string) (hc : P.cellsOf e = 1)
    (h : DataW.trod enc P w base spare held fuel t [v] = some x) : ∃ l : List (List UInt8), Row w 1 v l.length (strVals l) := by
  rcases open_slice1 ht hc h with ⟨h0, _⟩ | ⟨a, len, cap, m, n, V, D, Pl, hv, _, hl, _, hm, _, hV⟩
  · cases h0
    exact ⟨[], Row.nil _ _⟩
  · cases hv
    obtain ⟨l, h1, h2, _, h4⟩ := rows_of (w := w) (ad := some a) (size := 1) (fun b : List UInt8 => [Value.string ⟨b.toArray⟩]) (fun _ => True) (fun _ => rfl) len (fun i hi => by
      obtain ⟨hcell, htr⟩ := hV i (by rw [hm]; split <;> omega)
      obtain ⟨s, hs, _, _⟩ := DataW.trod_string he htr
      have hs := (List.cons.inj hs).1
      refine ⟨s.data.toList, trivial, fun j v hj => ⟨a, rfl, ?_⟩⟩
      match j, hj with
      | 0, hj => simp at hj; subst hj; rw [Nat.mul_one, Nat.add_zero, hcell, hs]
      | j + 1, hj => simp at hj)
    subst h1
    have e : l.flatMap (fun b : List UInt8 => [Value.string ⟨b.toArray⟩]) = strVals l := by unfold strVals; exact (List.map_eq_flatMap ..).symm
    rw [e] at h2 h4
    exact ⟨l, h2, _, _, rfl, hl, h4⟩
theorem row_ints {w : World} {base fuel : Nat} {spare : Nat → Bool} {held : Bool} {v : Value} {x : DataW H × List MemPlace} {t e : TypeId} (ht : P.underlying t = some (.slice e)) (he : P.underlying e = some (.int .i64)) (hc : P.cellsOf e = 1)
    (h : DataW.trod enc P w base spare held fuel t [v] = some x) : ∃ l : List Int, l.length ≤ maxLen ∧ (∀ n ∈ l, (Lit.int .i64 n).wf = true) ∧ Row w 1 v l.length (l.map fun n => .int .i64 n) := by
  rcases open_slice1 ht hc h with ⟨h0, _⟩ | ⟨a, len, cap, m, n, V, D, Pl, hv, _, hl, hml, hm, _, hV⟩
  · cases h0
    exact ⟨[], by unfold maxLen; simp, by simp, Row.nil _ _⟩
  · cases hv
    obtain ⟨l, h1, h2, h3, h4⟩ := rows_of (w := w) (ad := some a) (size := 1) (fun n : Int => [Value.int .i64 n]) (fun n => (Lit.int .i64 n).wf = true) (fun _ => rfl) len (fun i hi => by
      obtain ⟨hcell, htr⟩ := hV i (by rw [hm]; split <;> omega)
      obtain ⟨s, hs, _, hw⟩ := DataW.trod_int he htr
      have hs := (List.cons.inj hs).1
      refine ⟨s, hw, fun j v hj => ⟨a, rfl, ?_⟩⟩
      match j, hj with
      | 0, hj => simp at hj; subst hj; rw [Nat.mul_one, Nat.add_zero, hcell, hs]
      | j + 1, hj => simp at hj)
    subst h1
    have e : l.flatMap (fun n : Int => [Value.int .i64 n]) = l.map fun n => .int .i64 n := (List.map_eq_flatMap ..).symm
    rw [e] at h2 h4
    exact ⟨l, by omega, h3, h2, _, _, rfl, hl, h4⟩
end
end Go.Proofs.YtbcofimmfbmkoaaDoor
