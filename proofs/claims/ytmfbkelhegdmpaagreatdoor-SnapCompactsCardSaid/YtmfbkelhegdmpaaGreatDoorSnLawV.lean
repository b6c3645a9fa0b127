/- Chapter 13, plain law of the statements on crashes: a device with at most six short records of generation 1. -/
import Derived.Test.YtmfbkelhegdmpaaGreatDoorSnLawN
import Derived.Test.YtmfbkelhegdmpaaGreatDoorJournalV
namespace Go.Proofs.YtmfbkelhegdmpaaGreatDoor
open Go.RowKit Disk11 Journal12 Sum2

theorem synced_plain {D : Dev} {L : List (List UInt8)} (h : LaidS 12 D 1 stateB L) : ∃ S : Dev, syncD D = (S, 0) ∧ S.1.length = 12 ∧ S.2.length = 0 ∧ LaidS 12 S 1 stateB L := by
  obtain ⟨h1, h2⟩ := sync_laid h
  exact ⟨_, h1, h2.2.1, rfl, h2⟩
/-- A record appended, and any crash in the middle of it. -/
theorem torn_plain {S : Dev} {L : List (List UInt8)} {x : List UInt8} (h : LaidS 12 S 1 stateB L) (hc : S.2.length = 0) (hL : L.length ≤ 6) (hx : x.length ≤ 12) (hs : ∀ y ∈ L, y.length ≤ 12) :
    ∃ A : Dev, appendS S (1, ((sizeJ (withS (putN 1) L) : Nat) : Int)) x = (A, (1, ((sizeJ (withS (putN 1) (L ++ [x])) : Nat) : Int)), 0) ∧ LaidS 12 A 1 stateB (L ++ [x]) ∧ A.1.length = 12 ∧ A.2.length = 1 ∧ (∀ k (hk : k < A.2.length), (A.2[k]).2.length ≤ 30000) ∧
      ∀ k t : Nat, k ≤ A.2.length → t ≤ (nextD A k).2.length → ∃ (C : List (List UInt8)) (c : Dev) (l : List (List UInt8)), crashD A k t = ((C, []), 0) ∧ C.length = 12 ∧ recoverS (C, []) = (c, stateB, l, (1, ((sizeJ (withS (putN 1) l) : Nat) : Int)), 0) ∧ LaidS 12 c 1 stateB l ∧ c.2.length ≤ 1 ∧ (l = L ∨ l = L ++ [x]) := by
  have hz := size12 hs
  have hc' : S.2 = [] := List.eq_nil_of_length_eq_zero hc
  obtain ⟨h1, h2⟩ := append_laid (r := x) h (by omega) (by omega) (by omega)
  have hf : (formJ (putN 1 ++ x)).length ≤ 30000 := by
    rw [formJ_length, List.length_append, putN1]; simp; omega
  refine ⟨_, h1, h2, h.2.1, ?_, ?_, ?_⟩
  · show (S.2 ++ [_]).length = 1
    rw [hc']; rfl
  · intro k hk
    have e : ∀ y ∈ S.2 ++ [(((64 * (2 * (12 / 4)) + sizeJ (withS (putN 1) L) : Nat) : Int), formJ (putN 1 ++ x))], y.2.length ≤ 30000 := by
      intro y hy
      rw [hc', List.nil_append] at hy
      rw [List.mem_singleton.1 hy]; exact hf
    exact e _ (List.getElem_mem hk)
  · intro k t hk htt
    have hk1 : k ≤ 1 := by
      have : (S.2 ++ [(((64 * (2 * (12 / 4)) + sizeJ (withS (putN 1) L) : Nat) : Int), formJ (putN 1 ++ x))]).length = 1 := by rw [hc']; rfl
      rw [this] at hk; exact hk
    refine append_crash h hc' (by omega) (by omega) k t ?_
    unfold nextD at htt
    dsimp only at htt
    rw [hc', List.nil_append] at htt
    rcases Nat.lt_or_ge k 1 with e | e
    · obtain rfl : k = 0 := by omega
      exact .inl ⟨rfl, htt⟩
    · obtain rfl : k = 1 := by omega
      exact .inr ⟨rfl, Nat.le_zero.1 htt⟩
/-- One more record behind what was recovered. -/
theorem last_plain {c : Dev} {g : Nat} {y : List UInt8} {l : List (List UInt8)} {x : List UInt8} (h : LaidS 12 c g y l) (hg : g = 1 ∨ g = 2) (hc : c.2.length ≤ 1) (hl : l.length ≤ 7) (hs : ∀ y ∈ l, y.length ≤ 12) (hx : x.length ≤ 12) :
    ∃ X : Dev, appendS c (g, ((sizeJ (withS (putN g) l) : Nat) : Int)) x = (X, (g, ((sizeJ (withS (putN g) (l ++ [x])) : Nat) : Int)), 0) ∧ LaidS 12 X g y (l ++ [x]) ∧ X.1.length = 12 ∧ X.2.length ≤ 2 := by
  have hz : sizeJ (withS (putN g) l) ≤ 23 * l.length := by
    rw [size_with]
    have hp : (putN g).length = 1 := by rcases hg with rfl | rfl; rw [putN1]; rfl; rw [putN2]; rfl
    rw [hp]
    clear h hl
    induction l with
    | nil => exact Nat.zero_le _
    | cons x l ih =>
      have h1 := ih (fun y hy => hs y (List.mem_cons_of_mem _ hy))
      have h2 := hs x (List.mem_cons_self ..)
      simp only [List.map_cons, List.sum_cons, List.length_cons] at *
      omega
  obtain ⟨h1, h2⟩ := append_laid (r := x) h (by omega) (by omega) (by omega)
  refine ⟨_, h1, h2, h.2.1, ?_⟩
  show (c.2 ++ [_]).length ≤ 2
  rw [List.length_append, List.length_singleton]; omega
theorem below_call13 {w V U : World} (h : Below w.heap.size w V) (y : Below V.heap.size V U) : Below w.heap.size w U := h.trans (y.mono h.size)
theorem below_pre13 {W V U : World} (h : Below W.heap.size W V) (_ : Below V.heap.size V U) : W.heap.size ≤ V.heap.size := h.size
theorem torn_get {l L : List (List UInt8)} {x : List UInt8} (h : l = L ∨ l = L ++ [x]) {j : Nat} (hj : j < l.length) : (j < L.length ∧ ∃ y, l[j]? = some y ∧ L[j]? = some y) ∨ (j = L.length ∧ l[j]? = some x) := by
  rcases h with rfl | rfl
  · exact .inl ⟨hj, _, List.getElem?_eq_getElem hj, List.getElem?_eq_getElem hj⟩
  · rcases Nat.lt_or_ge j L.length with h | h
    · exact .inl ⟨h, _, (List.getElem?_append_left h).trans (List.getElem?_eq_getElem h), List.getElem?_eq_getElem h⟩
    · have : j = L.length := by rw [List.length_append, List.length_singleton] at hj; omega
      subst this
      exact .inr ⟨rfl, by rw [List.getElem?_append_right (Nat.le_refl _), Nat.sub_self]; rfl⟩
theorem torn_size (L : List (List UInt8)) (x : List UInt8) : sizeJ (withS (putN 1) (L ++ [x])) = sizeJ (withS (putN 1) L) + 11 + x.length := by
  rw [size_with, size_with, List.map_append, List.sum_append, putN1]
  simp only [List.map_cons, List.map_nil, List.sum_cons, List.sum_nil, List.length_cons, List.length_nil]
  omega
theorem str_cell {w : World} {ad : Option Addr} {n c : Nat} {l : List (List UInt8)} (h : Row w 1 (.slice ad n c) n (strVals l)) {j : Nat} {y : List UInt8} (hj : l[j]? = some y) : ∃ a, ad = some a ∧ w.cell? (a.add j) = some (.string ⟨y.toArray⟩) :=
  h.cell (by rw [strVals_get, hj]; rfl)
end Go.Proofs.YtmfbkelhegdmpaaGreatDoor
