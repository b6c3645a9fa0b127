/- Chapter 13, plain facts for SnapKnown and the statements on crashes. -/
import Derived.Test.YtmfbkelhegdmpaaGreatDoorSnLaws
namespace Go.Proofs.YtmfbkelhegdmpaaGreatDoor
open Go.RowKit Disk11 Journal12 Sum2

theorem sync_clean {d : Dev} (hg : Disk11.Good d) (hc : d.2 = []) : syncD d = (d, 0) := by
  have h1 := syncD_ok hg
  have h2 := crash_none hg
  have h3 := crash_zero hg 0 (Nat.zero_le _)
  rw [show ((0 : Nat) : Int) = 0 from rfl] at h3
  rw [h3] at h2
  have h4 : chunk (readK d 0) = d.1 := congrArg (fun r : Dev × Nat => r.1.1) h2
  have h5 : readAll d = readK d 0 := by rw [← readK_all, hc]; rfl
  rw [h1, h5, h4]
  obtain ⟨a, b⟩ := d
  dsimp only at hc
  rw [hc]
theorem rec_good {d c : Dev} {x : List UInt8} {l : List (List UInt8)} {lg : LogS} (h : recoverS d = (c, x, l, lg, 0)) : Disk11.Good d := by
  refine (chk_good d).1 (chk_ok ?_)
  unfold recoverS at h
  by_cases h1 : (chk d).1 ≠ 0
  · rw [if_pos h1] at h; exact absurd (congrArg (·.2.2.2.2) h) h1
  · exact Decidable.not_not.1 h1
/-- What is recovered from a device without a cache is also recovered when it is synchronised first. -/
theorem rec_sync {B : List (List UInt8)} {c : Dev} {x : List UInt8} {l : List (List UInt8)} {lg : LogS} (h : recoverS (B, []) = (c, x, l, lg, 0)) : syncD (B, []) = ((B, []), 0) := sync_clean (rec_good h) rfl
theorem other_head (r : List UInt8) : ([1] ++ r).take (putN 2).length ≠ putN 2 := by
  rw [putN2]; simp
def C1E : Dev := (compactS D1E (1, 12) [99, 100]).1
set_option maxRecDepth 100000 in
theorem ex3 : compactS D1E (1, 12) [99, 100] = (C1E, (2, 0), 0) ∧ C1E.1.length = 8 ∧ C1E = (D1E.1, wrS 8 2 [99, 100]) ∧
    C1E.2 = [(0, [0]), (1, formS 2 [99, 100]), (0, [183]), (256, List.replicate 256 0)] := by
  obtain ⟨_, h2, h3, h4⟩ := ex2
  obtain ⟨h5, _⟩ := compact_laid (y := [99, 100]) h4 h2 (by decide) (by decide)
  rw [ex_size] at h5
  have e : C1E = (compactS D1E (1, 12) [99, 100]).1 := rfl
  rw [show ((12 : Nat) : Int) = 12 from rfl] at h5
  rw [h5] at e
  dsimp only at e
  exact ⟨by rw [e]; exact h5, by rw [e]; exact h3, e, by rw [e]; rfl⟩
theorem ex4 : ∃ (C : List (List UInt8)) (c : Dev), crashD C1E 3 0 = ((C, []), 0) ∧ C.length = 8 ∧ recoverS (C, []) = (c, [99, 100], [], (2, 0), 0) ∧ c.1.length = 8 ∧ c.2.length = 1 := by
  obtain ⟨_, h2, h3, h4⟩ := ex2
  obtain ⟨C, c, g', x', l', q1, q2, q3, q4, q5, q6⟩ := compact_crash (y := [99, 100]) h4 h2 (by decide) (by decide) (by decide) (by rw [putN1]; exact other_head) 3 0 (by decide) (Nat.zero_le _)
  rcases q6 with ⟨_, _, _, h⟩ | ⟨rfl, rfl, rfl, _, h⟩
  · exact absurd h (by decide)
  · refine ⟨C, c, ?_, q2, q3, q4.2.1, h rfl rfl (by simp)⟩
    rw [ex3.2.2.1]; exact q1
theorem ex5 : ∃ (C : List (List UInt8)) (c : Dev), crashD C1E 1 18 = ((C, []), 0) ∧ C.length = 8 ∧ recoverS (C, []) = (c, [97, 98], [[120]], (1, 12), 0) ∧ syncD (C, []) = ((C, []), 0) := by
  obtain ⟨_, h2, h3, h4⟩ := ex2
  obtain ⟨C, c, g', x', l', q1, q2, q3, q4, q5, q6⟩ := compact_crash (y := [99, 100]) h4 h2 (by decide) (by decide) (by decide) (by rw [putN1]; exact other_head) 1 18 (by decide) (by
    show 18 ≤ (formS 2 [99, 100]).length
    rw [formS_length]; exact Nat.le_refl _)
  rcases q6 with ⟨rfl, rfl, rfl, _⟩ | ⟨_, _, _, h, _⟩
  · rw [ex_size] at q3
    refine ⟨C, c, ?_, q2, q3, rec_sync q3⟩
    rw [ex3.2.2.1]; exact q1
  · exact absurd h (by decide)
theorem capK : capS 7 = (0, 2) ∧ capS 11 = (111, 0) ∧ capS 4096 = (65519, 0) := by decide
end Go.Proofs.YtmfbkelhegdmpaaGreatDoor
