/- What stands of the caller's in the loops over records, chapter 12 (journal). -/
import Derived.Test.YthhghggaoljcbaaDoorJournalG
import Derived.Test.YthhghggaoljcbaaDoorKitAll
namespace Go.Proofs.YthhghggaoljcbaaDoor
open Go.RowKit Disk11 Journal12 Sum2

theorem own_turn {W W' : World} {n₀ e size n k : Nat} {v : Value} {xs : List Value} (h : W.ownsRow n₀ e size v n xs) (hg : W.grownBy W' (some k)) (hk : ∃ o, W.heap[k]? = some o ∧ ∀ cs, o ≠ .cells cs e (0, 0)) : W'.ownsRow n₀ e size v n xs :=
  World.ownsRow.kept h hg (by
    rcases h.2 with ⟨rfl, _⟩ | ⟨g, cap, cur, rfl, _, hh, _⟩
    · exact Or.inl rfl
    · refine Or.inr (fun e1 => ?_)
      simp only [Value.ownBlock, Option.some.injEq] at e1
      subst e1
      obtain ⟨o, ho, hne⟩ := hk
      rw [hh] at ho
      cases ho
      exact hne _ rfl)

/-- What stands of the caller's between two rounds. -/
def RepI (w : World) (c oc b : Nat) (pre : List (Nat × List UInt8)) (W : World) : Prop :=
  (∃ v, Boxed W oc 22 v ∧ Txt W w.heap.size v (pre.map (·.2))) ∧ BoxAt b c W ∧ Below w.heap.size w W ∧ ∃ cv, W.heap[c]? = some (.cells cv 85 (0, 0))
theorem RepI.grown {w A A' : World} {c oc b k : Nat} {pre : List (Nat × List UInt8)} (h : RepI w c oc b pre A) (hw : Tab w) (hg : A.grownBy A' (some k)) (hk : w.heap.size ≤ k) (h1 : k ≠ oc) (h2 : k ≠ b) (ho : ∃ o, A.heap[k]? = some o ∧ ∀ cs, o ≠ .cells cs 9 (0, 0)) (hz : ∃ cv, A'.heap[c]? = some (.cells cv 85 (0, 0))) : RepI w c oc b pre A' := by
  obtain ⟨⟨v, hb, hx⟩, ⟨hb2, htab⟩, hbl, _⟩ := h
  have hbl' : Below w.heap.size w A' := hbl.grown hg hbl.size (fun j hj => by cases hj; omega)
  exact ⟨⟨v, hb.kept hg (by simp; omega), own_turn hx hg ho⟩, ⟨(hg.block _ (Array.getElem?_eq_some_iff.1 hb2).1 (by simp; omega)).trans hb2, hw.below hbl'⟩, hbl', hz⟩
theorem RepI.mine (w : World) (c oc b B : Nat) (hw : Tab w) (h0 : w.heap.size ≤ c) (hB : oc < B ∧ b < B ∧ c < B) (h1 : c ≠ oc) (h2 : c ≠ b) : MineV c 85 B (RepI w c oc b) := by
  refine ⟨fun s A A' h hT => h.grown hw hT.1 h0 h1 h2 ?_ hT.2, fun s A A' k h hg hk ⟨o, ho, hoc⟩ => h.grown hw hg ?_ (by omega) (by omega) ⟨o, ho, fun cs e => by rw [e] at hoc; cases hoc⟩ ?_⟩
  · obtain ⟨_, _, _, cv, hcv⟩ := h
    exact ⟨_, hcv, fun cs e => by cases e⟩
  · obtain ⟨_, _, _, cv, hcv⟩ := h
    omega
  · obtain ⟨_, _, _, cv, hcv⟩ := h
    exact ⟨cv, (hg.block _ (Array.getElem?_eq_some_iff.1 hcv).1 (by simp; omega)).trans hcv⟩

/-- What stands of the caller's between two rounds. -/
def PlaI (w : World) (c oc b : Nat) (pre : List (Nat × List UInt8)) (W : World) : Prop :=
  (∃ v, Boxed W oc 42 v ∧ Ints W w.heap.size v (pre.map (·.1))) ∧ BoxAt b c W ∧ Below w.heap.size w W ∧ ∃ cv, W.heap[c]? = some (.cells cv 85 (0, 0))
theorem PlaI.grown {w A A' : World} {c oc b k : Nat} {pre : List (Nat × List UInt8)} (h : PlaI w c oc b pre A) (hw : Tab w) (hg : A.grownBy A' (some k)) (hk : w.heap.size ≤ k) (h1 : k ≠ oc) (h2 : k ≠ b) (ho : ∃ o, A.heap[k]? = some o ∧ ∀ cs, o ≠ .cells cs 3 (0, 0)) (hz : ∃ cv, A'.heap[c]? = some (.cells cv 85 (0, 0))) : PlaI w c oc b pre A' := by
  obtain ⟨⟨v, hb, hx⟩, ⟨hb2, htab⟩, hbl, _⟩ := h
  have hbl' : Below w.heap.size w A' := hbl.grown hg hbl.size (fun j hj => by cases hj; omega)
  exact ⟨⟨v, hb.kept hg (by simp; omega), own_turn hx hg ho⟩, ⟨(hg.block _ (Array.getElem?_eq_some_iff.1 hb2).1 (by simp; omega)).trans hb2, hw.below hbl'⟩, hbl', hz⟩
theorem PlaI.mine (w : World) (c oc b B : Nat) (hw : Tab w) (h0 : w.heap.size ≤ c) (hB : oc < B ∧ b < B ∧ c < B) (h1 : c ≠ oc) (h2 : c ≠ b) : MineV c 85 B (PlaI w c oc b) := by
  refine ⟨fun s A A' h hT => h.grown hw hT.1 h0 h1 h2 ?_ hT.2, fun s A A' k h hg hk ⟨o, ho, hoc⟩ => h.grown hw hg ?_ (by omega) (by omega) ⟨o, ho, fun cs e => by rw [e] at hoc; cases hoc⟩ ?_⟩
  · obtain ⟨_, _, _, cv, hcv⟩ := h
    exact ⟨_, hcv, fun cs e => by cases e⟩
  · obtain ⟨_, _, _, cv, hcv⟩ := h
    omega
  · obtain ⟨_, _, _, cv, hcv⟩ := h
    exact ⟨cv, (hg.block _ (Array.getElem?_eq_some_iff.1 hcv).1 (by simp; omega)).trans hcv⟩

theorem kept_app {W w1 : World} {n₀ B e size n k t : Nat} {v v' : Value} {xs : List Value} {tmp : Obj} {cs : Array Value} (hrow : W.ownsRow n₀ e size v n xs) (hgrow : (W.alloc tmp).grownBy w1 v.ownBlock) (hk : W.heap[k]? = some (.cells cs t (0, 0))) (hte : t ≠ e) (hkB : k ≠ B) :
    (w1.setCell ⟨B, 0, none⟩ v').heap[k]? = some (.cells cs t (0, 0)) := by
  have hlt := (Array.getElem?_eq_some_iff.1 hk).1
  refine one_other hkB ((hgrow.block k (by rw [World.size_alloc]; omega) ?_).trans ((Below.heap_alloc _ _ _ hlt).trans hk))
  rcases hrow.2 with ⟨rfl, _⟩ | ⟨g, cap, cur, rfl, _, hh, _⟩
  · simp [Value.ownBlock]
  · intro e1
    simp only [Value.ownBlock, Option.some.injEq] at e1
    subst e1
    rw [hh] at hk
    cases hk
    exact hte rfl
end Go.Proofs.YthhghggaoljcbaaDoor
