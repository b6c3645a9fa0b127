/- Chapter 13, plain law of SnapCompacts: a new snapshot, and any crash in the middle of it. -/
import Derived.Test.YtmfbkelhegdmpaaGreatDoorSnLawV
namespace Go.Proofs.YtmfbkelhegdmpaaGreatDoor
open Go.RowKit Disk11 Journal12 Sum2

theorem wr_short (x : List UInt8) (hx : x.length ≤ 12) : ∀ y ∈ wrS 12 2 x, y.2.length ≤ 30000 := by
  intro y hy
  unfold wrS at hy
  simp only [List.mem_cons, List.not_mem_nil, or_false] at hy
  rcases hy with rfl | rfl | rfl | rfl
  · decide
  · show (formS 2 x).length ≤ 30000
    rw [formS_length]; omega
  · decide
  · show (List.replicate _ _).length ≤ 30000
    rw [List.length_replicate]; decide
theorem comp_plain {S : Dev} {L : List (List UInt8)} {x : List UInt8} (h : LaidS 12 S 1 stateB L) (hc : S.2.length = 0) (hx : x.length ≤ 12) :
    ∃ A : Dev, compactS S (1, ((sizeJ (withS (putN 1) L) : Nat) : Int)) x = (A, (2, 0), 0) ∧ A.1.length = 12 ∧ A.2.length = 4 ∧ (∀ k (hk : k < A.2.length), (A.2[k]).2.length ≤ 30000) ∧
      (∃ B c : Dev, syncD A = (B, 0) ∧ recoverS B = (c, x, [], (2, 0), 0) ∧ B.1.length ≤ 4096) ∧
      ∀ k t : Nat, k ≤ A.2.length → t ≤ (nextD A k).2.length → ∃ (C : List (List UInt8)) (c : Dev) (g : Nat) (y : List UInt8) (l : List (List UInt8)), crashD A k t = ((C, []), 0) ∧ C.length = 12 ∧ recoverS (C, []) = (c, y, l, (g, ((sizeJ (withS (putN g) l) : Nat) : Int)), 0) ∧ LaidS 12 c g y l ∧ c.2.length ≤ 1 ∧
        ((g = 1 ∧ y = stateB ∧ l = L) ∨ (g = 2 ∧ y = x ∧ l = [])) := by
  have hc' : S.2 = [] := List.eq_nil_of_length_eq_zero hc
  have hsn := slotN_ge 12 (by decide)
  obtain ⟨h1, h2⟩ := compact_laid (y := x) h hc' (by decide) (by omega)
  have hcr := fun k t (hk : k ≤ 4) ht => compact_crash (y := x) h hc' (by decide) (by omega) (by omega) (by rw [putN1]; exact other_head) k t hk ht
  have hl4 : (wrS 12 (1 + 1) x).length = 4 := rfl
  refine ⟨_, h1, h.2.1, rfl, fun k hk => wr_short x hx _ (List.getElem_mem hk), ?_, ?_⟩
  · obtain ⟨C, c, g', x', l', q1, q2, q3, q4, q5, q6⟩ := hcr 4 0 (Nat.le_refl _) (Nat.zero_le _)
    rcases q6 with ⟨_, _, _, e⟩ | ⟨rfl, rfl, rfl, _, _⟩
    · exact absurd e (by decide)
    · have e1 := crash_end h2
      rw [show (((S.1, wrS 12 (1 + 1) x') : Dev).2.length : Int) = ((4 : Nat) : Int) from rfl, show (0 : Int) = ((0 : Nat) : Int) from rfl, q1] at e1
      refine ⟨(C, []), c, ?_, q3, by show C.length ≤ 4096; omega⟩
      rw [syncD_ok h2, ← e1]
  · intro k t hk ht
    obtain ⟨C, c, g', x', l', q1, q2, q3, q4, q5, q6⟩ := hcr k t hk ht
    refine ⟨C, c, g', x', l', q1, q2, q3, q4, q5, ?_⟩
    rcases q6 with ⟨e1, e2, e3, _⟩ | ⟨e1, e2, e3, _⟩
    · exact .inl ⟨e1, e2, e3⟩
    · exact .inr ⟨e1, e2, e3⟩
end Go.Proofs.YtmfbkelhegdmpaaGreatDoor
