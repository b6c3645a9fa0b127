/- Rows that are read, wherever they lie, chapter 3. -/
import Derived.Test.YtbcofimmfbmkoaaDoorWordsP
namespace Go.Proofs.YtbcofimmfbmkoaaDoor
open Go.RowKit Words3

theorem rcells_get : ∀ (vs : List Value) (rs : List Rw) (k : Nat) (r : Rw) (u : Value), rs[k]? = some r → vs[k]? = some u → (rcells vs rs)[k * 2]? = some (.int .i64 (r.at_ : Int)) ∧ (rcells vs rs)[k * 2 + 1]? = some u
  | [], _, k, r, u, _, h => by simp at h
  | _ :: _, [], k, r, u, h, _ => by simp at h
  | v :: vs, x :: rs, 0, r, u, h1, h2 => by
    simp only [List.getElem?_cons_zero, Option.some.injEq] at h1 h2
    subst h1 h2
    exact ⟨rfl, rfl⟩
  | v :: vs, x :: rs, k + 1, r, u, h1, h2 => by
    rw [List.getElem?_cons_succ] at h1 h2
    obtain ⟨e1, e2⟩ := rcells_get vs rs k r u h1 h2
    have e : rcells (v :: vs) (x :: rs) = .int .i64 (x.at_ : Int) :: v :: rcells vs rs := rfl
    rw [e, show (k + 1) * 2 = k * 2 + 1 + 1 by omega, show k * 2 + 1 + 1 + 1 = (k * 2 + 1) + 1 + 1 by omega]
    simp only [List.getElem?_cons_succ]
    exact ⟨e1, e2⟩
/-- v is a slice of rows. -/
def RowsAt (w : World) (v : Value) (rs : List Rw) : Prop :=
  ∃ vs : List Value, vs.length = rs.length ∧ Row w 2 v rs.length (rcells vs rs) ∧ ∀ p ∈ rs.zip vs, WordsAt w p.2 p.1.words
theorem RowsAt.below {w w' : World} {v : Value} {rs : List Rw} (h : RowsAt w v rs) (hb : Below w.heap.size w w') : RowsAt w' v rs := by
  obtain ⟨vs, h1, h2, h3⟩ := h
  exact ⟨vs, h1, h2.below hb, fun p hp => (h3 p hp).below hb⟩
theorem Rs.at_ {w : World} {B : Nat} {v : Value} {rs : List Rw} (h : Rs w B v rs) : RowsAt w v rs := by
  obtain ⟨vs, h1, h2, h3⟩ := h
  exact ⟨vs, h1, Row.of_own h2, fun p hp => (h3 p hp).at_⟩
theorem RowsAt.slice {w : World} {v : Value} {rs : List Rw} (h : RowsAt w v rs) : ∃ ad c, v = .slice ad rs.length c ∧ rs.length ≤ c := by
  obtain ⟨vs, h1, h2, h3⟩ := h
  exact h2.slice
theorem RowsAt.row {w : World} {ad : Option Addr} {n c : Nat} {rs : List Rw} (h : RowsAt w (.slice ad n c) rs) {k : Nat} {r : Rw} (hr : rs[k]? = some r) :
    ∃ a u, ad = some a ∧ w.cell? (a.add (k * 2)) = some (.int .i64 (r.at_ : Int)) ∧ w.cell? { block := (a.add (k * 2)).block, off := (a.add (k * 2)).off + 1 } = some u ∧ WordsAt w u r.words := by
  obtain ⟨vs, h1, h2, h3⟩ := h
  have hk : k < vs.length := by
    rw [h1]; exact (List.getElem?_eq_some_iff.1 hr).1
  have hu : vs[k]? = some vs[k] := List.getElem?_eq_getElem hk
  obtain ⟨e1, e2⟩ := rcells_get vs rs k r _ hr hu
  obtain ⟨_, ad', c', h4, _, h5⟩ := h2
  cases h4
  obtain ⟨a, ha, c0⟩ := h5 _ _ e1
  obtain ⟨a1, ha1, c1⟩ := h5 _ _ e2
  obtain rfl : a1 = a := by rw [ha] at ha1; exact (Option.some.inj ha1).symm
  rw [add_more _ _ _ (by omega)] at c1
  refine ⟨a1, vs[k], ha, c0, c1, h3 (r, vs[k]) ?_⟩
  have hz : (rs.zip vs)[k]? = some (r, vs[k]) := by rw [List.getElem?_zip_eq_some]; exact ⟨hr, hu⟩
  exact List.mem_of_getElem? hz
end Go.Proofs.YtbcofimmfbmkoaaDoor
