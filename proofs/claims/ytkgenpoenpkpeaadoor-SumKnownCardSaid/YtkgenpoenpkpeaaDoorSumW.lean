/- The walks of the statements' own helpers of chapter 2: awake; the statement SumSums. -/
import Derived.Test.YtkgenpoenpkpeaaDoorSumR
namespace Go.Proofs.YtkgenpoenpkpeaaDoor
open Go.RowKit Sum2

def litDigits : ByteArray := ⟨#[49, 50, 51, 52, 53, 54, 55, 56, 57]⟩
theorem crc32_digits : crc32 [49, 50, 51, 52, 53, 54, 55, 56, 57] = 3808858755 := by decide +kernel
theorem crc16_digits : crc16 [49, 50, 51, 52, 53, 54, 55, 56, 57] = 10673 := by decide +kernel
theorem open16_a : open16 (seal16 [97]) = ([97], 0) := by decide +kernel
theorem seal32_nil : (seal32 []).length = 4 := by decide +kernel

theorem awake_any (w : World) (ht : Tab w) :
    Calls Tryd.prog 11 #[] w fun e w' => e = .returned (.bool true) ∧ Below w.heap.size w w' := by
  have HT := Lib.hid ht; clear ht
  have hsl := seal32_nil
  go_enter Tryd.func11, Tryd.ntmps11
  go_wp2_with fail
  refine (seal16_any ⟨#[97]⟩ (by decide) _).mono ?_
  rintro e w1 ⟨rfl, hb1⟩
  go_wp2_with fail
  refine (Open16_any _ (by show (_ : Nat) ≤ _; decide +kernel) _).mono ?_
  rw [show open16 _ = ([97], 0) from open16_a]
  rintro e w2 ⟨rfl, hb2⟩
  have HT2 : Hid (Tab w2) := Lib.hid ((HT.out.below hb1).below hb2)
  go_wp2_with fail
  refine (crc32_any litDigits (by decide) _ HT2.out).mono ?_
  rw [show crc32 litDigits.data.toList = 3808858755 from crc32_digits]
  rintro e w3 ⟨rfl, rfl⟩
  go_wp2_with fail
  refine (crc16_any litDigits (by decide) _).mono ?_
  rw [show crc16 litDigits.data.toList = 10673 from crc16_digits]
  rintro e w3 ⟨rfl, rfl⟩
  go_wp2_with fail
  refine (seal32_any ⟨#[]⟩ (by decide) _ HT2.out).mono ?_
  rintro e w3 ⟨rfl, hb3⟩
  go_wp2
  go_ret
  exact ⟨rfl, andThen (andThen hb1 hb2) hb3⟩

theorem sumSums_any (s : ByteArray) (hs : s.size ≤ 140737488351232) (w : World) (ht : Tab w) :
    Calls Tryd.prog 4 #[.string s] w fun e w' => e = .returned (.bool true) ∧ Below w.heap.size w w' := by
  have HT := Lib.hid ht; clear ht
  by_cases hl : s.size ≤ 3000
  · have hl' : (s.size : Int) ≤ 3000 := by omega
    go_enter Tryd.func4, Tryd.ntmps4
    go_wp2_with fail
    refine (Open32_any s hs _ HT.out).mono ?_; rintro e w1 ⟨rfl, hb1⟩
    go_wp2_with fail
    refine (rOpen32_any s hs _).mono ?_; rintro e w2 ⟨rfl, hb2⟩
    have B2 := andThen hb1 hb2; clear hb1 hb2
    go_wp2_with fail
    refine (Open16_any s hs _).mono ?_; rintro e w3 ⟨rfl, hb3⟩
    have B3 := andThen B2 hb3; clear B2 hb3
    go_wp2_with fail
    refine (rOpen16_any s hs _).mono ?_; rintro e w4 ⟨rfl, hb4⟩
    have B4 := andThen B3 hb4; clear B3 hb4
    go_wp2_with fail
    refine (crc32_any s (by omega) _ (HT.out.below B4)).mono ?_; rintro e w5 ⟨rfl, rfl⟩
    go_wp2_with fail
    refine (rcrc32_any s (by omega) _).mono ?_; rintro e w5 ⟨rfl, rfl⟩
    go_wp2_with fail
    refine (crc16_any s (by omega) _).mono ?_; rintro e w5 ⟨rfl, rfl⟩
    go_wp2_with fail
    refine (rcrc16_any s (by omega) _).mono ?_; rintro e w5 ⟨rfl, rfl⟩
    go_wp2_with fail
    refine (seal32_any s hs _ (HT.out.below B4)).mono ?_; rintro e w5 ⟨rfl, hb5⟩
    have B5 := andThen B4 hb5; clear B4 hb5
    go_wp2_with fail
    refine (rseal32_any s hs _).mono ?_; rintro e w6 ⟨rfl, hb6⟩
    have B6 := andThen B5 hb6; clear B5 hb6
    go_wp2_with fail
    refine (seal16_any s hs _).mono ?_; rintro e w7 ⟨rfl, hb7⟩
    have B7 := andThen B6 hb7; clear B6 hb7
    go_wp2_with fail
    refine (rseal16_any s hs _).mono ?_; rintro e w8 ⟨rfl, hb8⟩
    have B8 := andThen B7 hb8; clear B7 hb8
    go_wp2_with fail
    refine (awake_any _ (HT.out.below B8)).mono ?_; rintro e w9 ⟨rfl, hb9⟩
    go_wp2
    go_ret
    exact ⟨rfl, andThen B8 hb9⟩
  · have hl' : (3000 : Int) < (s.size : Int) := by omega
    go_enter Tryd.func4, Tryd.ntmps4
    go_wp2_with fail
    refine (awake_any _ HT.out).mono ?_; rintro e w9 ⟨rfl, hb9⟩
    go_wp2
    go_ret
    exact ⟨rfl, hb9⟩
end Go.Proofs.YtkgenpoenpkpeaaDoor
