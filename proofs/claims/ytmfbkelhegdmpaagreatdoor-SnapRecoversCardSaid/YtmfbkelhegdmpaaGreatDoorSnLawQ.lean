/- Chapter 13: how long the devices are that the functions answer. -/
import Derived.Test.YtmfbkelhegdmpaaGreatDoorSnLaws
import Derived.Test.YtmfbkelhegdmpaaGreatDoorDiskKit
namespace Go.Proofs.YtmfbkelhegdmpaaGreatDoor
open Go.RowKit Disk11 Journal12 Sum2

theorem none_len (n m : Nat) : none0.1.length ≤ n ∧ none0.2.length ≤ m := ⟨Nat.zero_le _, Nat.zero_le _⟩
theorem cutJ_len13 (d : Dev) (r : Reg) (p : Int) : (cutJ d r p).1.1.length ≤ d.1.length ∧ (cutJ d r p).1.2.length ≤ d.2.length + 1 := by
  unfold cutJ
  split
  · exact none_len _ _
  · split
    · exact ⟨Nat.le_refl _, Nat.le_succ _⟩
    · exact writeD_len _ _ _
theorem appendJ_len13 (d : Dev) (r : Reg) (p : Int) (x : List UInt8) : (appendJ d r p x).1.1.length ≤ d.1.length ∧ (appendJ d r p x).1.2.length ≤ d.2.length + 1 := by
  unfold appendJ
  split
  · exact none_len _ _
  · split
    · exact none_len _ _
    · split
      · exact none_len _ _
      · split
        · exact none_len _ _
        · split
          · exact none_len _ _
          · exact writeD_len _ _ _
theorem append_len (d : Dev) (l : LogS) (x : List UInt8) : (appendS d l x).1.1.length ≤ d.1.length ∧ (appendS d l x).1.2.length ≤ d.2.length + 1 := by
  unfold appendS
  split
  · exact none_len _ _
  · split
    · exact none_len _ _
    · exact appendJ_len13 _ _ _ _
theorem compact_len (d : Dev) (l : LogS) (x : List UInt8) : (compactS d l x).1.1.length ≤ d.1.length ∧ (compactS d l x).1.2.length ≤ d.2.length + 4 := by
  unfold compactS
  have h1 := writeD_len d (placeS d.1.length (l.1 + 1) : Nat) [0]
  have h2 := writeD_len (comp1 d (l.1 + 1)).1 ((placeS d.1.length (l.1 + 1) + 1 : Nat) : Int) (formS (l.1 + 1) x)
  have h3 := writeD_len (comp2 (comp1 d (l.1 + 1)).1 d.1.length (l.1 + 1) x).1 (placeS d.1.length (l.1 + 1) : Nat) [183]
  have h4 := cutJ_len13 (comp3 (comp2 (comp1 d (l.1 + 1)).1 d.1.length (l.1 + 1) x).1 d.1.length (l.1 + 1)).1 (regS d.1.length) 0
  have g1 : (comp1 d (l.1 + 1)).1.1.length ≤ d.1.length ∧ (comp1 d (l.1 + 1)).1.2.length ≤ d.2.length + 1 := h1
  have g2 : (comp2 (comp1 d (l.1 + 1)).1 d.1.length (l.1 + 1) x).1.1.length ≤ (comp1 d (l.1 + 1)).1.1.length ∧ (comp2 (comp1 d (l.1 + 1)).1 d.1.length (l.1 + 1) x).1.2.length ≤ (comp1 d (l.1 + 1)).1.2.length + 1 := h2
  have g3 : (comp3 (comp2 (comp1 d (l.1 + 1)).1 d.1.length (l.1 + 1) x).1 d.1.length (l.1 + 1)).1.1.length ≤ (comp2 (comp1 d (l.1 + 1)).1 d.1.length (l.1 + 1) x).1.1.length ∧ (comp3 (comp2 (comp1 d (l.1 + 1)).1 d.1.length (l.1 + 1) x).1 d.1.length (l.1 + 1)).1.2.length ≤ (comp2 (comp1 d (l.1 + 1)).1 d.1.length (l.1 + 1) x).1.2.length + 1 := h3
  split
  · exact none_len _ _
  · split
    · exact none_len _ _
    · split
      · exact none_len _ _
      · split
        · exact none_len _ _
        · split
          · exact none_len _ _
          · split
            · exact none_len _ _
            · split
              · exact none_len _ _
              · exact ⟨by dsimp only; omega, by dsimp only; omega⟩
theorem recover_len (d : Dev) : (recoverS d).1.1.length ≤ d.1.length ∧ (recoverS d).1.2.length ≤ d.2.length + 1 ∧ (recoverS d).2.2.1.length ≤ 26214 := by
  unfold recoverS
  by_cases h1 : (chk d).1 ≠ 0
  · rw [if_pos h1]; exact ⟨Nat.zero_le _, Nat.zero_le _, Nat.zero_le _⟩
  · rw [if_neg h1]
    by_cases h2 : d.1.length < 8
    · rw [if_pos h2]; exact ⟨Nat.zero_le _, Nat.zero_le _, Nat.zero_le _⟩
    · rw [if_neg h2]
      by_cases h3 : d.2 ≠ []
      · rw [if_pos h3]; exact ⟨Nat.zero_le _, Nat.zero_le _, Nat.zero_le _⟩
      · rw [if_neg h3]
        by_cases h4 : (bestS d).1 = 0
        · rw [if_pos h4]; exact ⟨Nat.zero_le _, Nat.zero_le _, Nat.zero_le _⟩
        · rw [if_neg h4]
          have ho : openN d = 0 := by unfold openN; rw [if_neg h1, if_neg h2]
          obtain ⟨_, _, _, hrs, _, _, _, _, hL, hO, _⟩ := rec_log ho rfl rfl rfl rfl
          have hd : (doneS d).1.length ≤ d.1.length ∧ (doneS d).2.length ≤ d.2.length + 1 := by
            unfold doneS
            split
            · exact ⟨Nat.le_refl _, Nat.le_succ _⟩
            · exact cutJ_len13 _ _ _
          exact ⟨hd.1, hd.2, by dsimp only; rw [hrs]; omega⟩
end Go.Proofs.YtmfbkelhegdmpaaGreatDoor
