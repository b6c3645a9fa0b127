/- The walk of the statement SumKnown. -/
import Derived.Test.YtkgenpoenpkpeaaDoorSumJ
import Derived.Test.YtkgenpoenpkpeaaDoorSumO
import Derived.Deep.RegionWith
namespace Go.Proofs.YtkgenpoenpkpeaaDoor
open Go.RowKit Sum2

theorem known_open : open16 [97] = ([], 11) := by decide +kernel
theorem known_seal : (seal16 [97]).length = 3 := by decide +kernel
theorem known_bad : open16 ((seal16 [97]).take 2 ++ [UInt8.ofNat (((seal16 [97]).getD 2 0).toNat ^^^ 1)]) = ([], 10) := by decide +kernel
theorem known_c0 : crc32 [] = 0 := by decide +kernel
theorem known_d0 : crc16 [] = 65535 := by decide +kernel
theorem known_j : join32 (crc32 [49, 50, 51, 52]) (crc32 [53, 54, 55, 56, 57]) 5 = 3808858755 := by decide +kernel
theorem known_k : join16 1234 65535 0 = 1234 := by decide +kernel
theorem known_f : crc32 ([49, 50, 51, 52, 53, 54, 55, 56, 57] ++ text4 (fixReg [49, 50, 51, 52, 53, 54, 55, 56, 57] 0)) = 0 := by decide +kernel

set_option maxHeartbeats 1000000 in
theorem sumKnown_any (w : World) (ht : Tab w) :
    Calls Tryd.prog 10 #[] w fun e w' => e = .returned (.bool true) ∧ Below w.heap.size w w' := by
  have HT := Lib.hid ht; clear ht
  have c1 := Open16_any ⟨#[97]⟩ (by decide)
  rw [show open16 (⟨#[97]⟩ : ByteArray).data.toList = ([], 11) from known_open] at c1
  have c2 := seal16_any ⟨#[97]⟩ (by decide)
  obtain ⟨V, hV⟩ : ∃ V : ByteArray, V = ⟨(seal16 [97]).toArray⟩ := ⟨_, rfl⟩
  rw [show (⟨(seal16 (⟨#[97]⟩ : ByteArray).data.toList).toArray⟩ : ByteArray) = V from hV.symm] at c2
  have hVl : V.data.toList = seal16 [97] := by rw [hV]
  have hVs : V.size = 3 := by
    have h : V.data.toList.length = V.size := by simp
    rw [hVl, known_seal] at h; exact h.symm
  have hVs' : (V.size : Int) = 3 := by omega
  obtain ⟨z, hz⟩ : ∃ z : Nat, z = (V[2]'(by omega)).toNat ^^^ 1 := ⟨_, rfl⟩
  have hz2 : z = ((seal16 [97]).getD 2 0).toNat ^^^ 1 := by
    have h2 : V[2]'(by omega) = (seal16 [97]).getD 2 0 := by
      have : (V[2]'(by omega)) = V.data.toList[2]'(by simpa using (by omega : 2 < V.size)) := rfl
      rw [this, List.getD_eq_getElem?_getD, ← hVl, List.getElem?_eq_getElem (by simpa using (by omega : 2 < V.size))]; rfl
    rw [hz, h2]
  have hzx : bits .xor .u8 ((V[2]'(by omega)).toNat : Int) 1 = (z : Int) := by rw [hz]; exact u8_xor_nat _ 1 (u8lt _) (by decide)
  have hz256 : z < 256 := by rw [hz]; exact Nat.xor_lt_two_pow (n := 8) (u8lt _) (by decide)
  have hcv := one_string z hz256
  have hcv2 := one_string_d z hz256
  obtain ⟨b1, hb1⟩ : ∃ b : ByteArray, b = V.extract 0 2 := ⟨_, rfl⟩
  obtain ⟨b2, hb2⟩ : ∃ b : ByteArray, b = ⟨#[UInt8.ofNat z]⟩ := ⟨_, rfl⟩
  rw [← hb2] at hcv hcv2
  have s1 : b1.size ≤ 3 := by rw [hb1]; have := extract_le V 0 2; omega
  have s2 : b2.size = 1 := by rw [hb2]; rfl
  have hadd := run_string_add_sum (P := Tryd.prog) (a := b1) (b := b2) (h := by omega)
  have c3 := Open16_any (b1 ++ b2) (by rw [ByteArray.size_append]; omega)
  have hbl : (b1 ++ b2).data.toList = (seal16 [97]).take 2 ++ [UInt8.ofNat (((seal16 [97]).getD 2 0).toNat ^^^ 1)] := by
    rw [ByteArray.data_append, Array.toList_append, hb1, hb2, extract_take, hVl, hz2]
  rw [hbl, known_bad] at c3
  have c4 := crc32_any ⟨#[]⟩ (by decide)
  rw [show crc32 (⟨#[]⟩ : ByteArray).data.toList = 0 from known_c0] at c4
  have c5 := crc16_any ⟨#[]⟩ (by decide)
  rw [show crc16 (⟨#[]⟩ : ByteArray).data.toList = 65535 from known_d0] at c5
  have c6 := crc32_any ⟨#[49, 50, 51, 52]⟩ (by decide)
  have c7 := crc32_any ⟨#[53, 54, 55, 56, 57]⟩ (by decide)
  have c8 := join32_in _ _ 5 (crc32_lt [49, 50, 51, 52]) (crc32_lt [53, 54, 55, 56, 57]) (by decide)
  rw [known_j] at c8
  rw [show crc32 (⟨#[49, 50, 51, 52]⟩ : ByteArray).data.toList = crc32 [49, 50, 51, 52] from rfl] at c6
  rw [show crc32 (⟨#[53, 54, 55, 56, 57]⟩ : ByteArray).data.toList = crc32 [53, 54, 55, 56, 57] from rfl] at c7
  generalize crc32 [49, 50, 51, 52] = q6 at *
  generalize crc32 [53, 54, 55, 56, 57] = q7 at *
  obtain ⟨P6, hP6⟩ : ∃ P : ByteArray, P = ⟨#[49, 50, 51, 52]⟩ := ⟨_, rfl⟩
  obtain ⟨P7, hP7⟩ : ∃ P : ByteArray, P = ⟨#[53, 54, 55, 56, 57]⟩ := ⟨_, rfl⟩
  have c9 := join16_in 1234 65535 0 (by decide) (by decide) (by decide)
  rw [known_k] at c9
  have c10 := fix_any litDigits (by decide) 0 (by decide)
  rw [fixL_ok (show litDigits.data.toList.length ≤ 20000 by decide)] at c10
  obtain ⟨Z, hZ⟩ : ∃ Z : ByteArray, Z = ⟨(text4 (fixReg litDigits.data.toList 0)).toArray⟩ := ⟨_, rfl⟩
  rw [← hZ] at c10
  have hZs : Z.size = 4 := by rw [hZ]; rfl
  have hZs' : (Z.size : Int) = 4 := by omega
  have hdZ : (litDigits ++ Z).data.toList = [49, 50, 51, 52, 53, 54, 55, 56, 57] ++ text4 (fixReg [49, 50, 51, 52, 53, 54, 55, 56, 57] 0) := by
    have e1 : Z.data.toList = text4 (fixReg litDigits.data.toList 0) := by rw [hZ]
    have e2 : litDigits.data.toList = [49, 50, 51, 52, 53, 54, 55, 56, 57] := rfl
    rw [ByteArray.data_append, Array.toList_append, e1, e2]
  have c11 := crc32_any (litDigits ++ Z) (by rw [ByteArray.size_append]; have : litDigits.size = 9 := rfl; omega)
  rw [hdZ, known_f] at c11
  have haddZ := run_string_add_sum (P := Tryd.prog) (a := litDigits) (b := Z) (h := by have : litDigits.size = 9 := rfl; omega)
  unfold litDigits at c10 c11 haddZ
  have C9 := Lib.hid c9; have C10 := Lib.hid c10; have C11 := Lib.hid c11
  clear c9 c10 c11 hZ hdZ
  rw [← hP6] at c6
  rw [← hP7] at c7
  have C6' := Lib.hid c6; have C7' := Lib.hid c7; have C8' := Lib.hid c8
  have x6 : (⟨#[49, 50, 51, 52, 53, 54, 55, 56, 57]⟩ : ByteArray).extract 0 4 = P6 := by rw [hP6]; decide
  have x7 : (⟨#[49, 50, 51, 52, 53, 54, 55, 56, 57]⟩ : ByteArray).extract 4 9 = P7 := by rw [hP7]; decide
  have C1 := Lib.hid c1; have C2 := Lib.hid c2; have C3 := Lib.hid c3; have C4 := Lib.hid c4; have C5 := Lib.hid c5
  have hsl : V.extract 0 2 = b1 := hb1.symm
  clear c1 c2 c3 c4 c5 c6 c7 c8 hP6 hP7 hV hVl hz hz2 hb1 hb2 hbl s1 s2
  go_enter Tryd.func10, Tryd.ntmps10
  go_wp2_with fail
  refine (C1.out _).mono ?_; rintro e w1 ⟨rfl, b1'⟩
  go_wp2_with fail
  refine (C2.out _).mono ?_; rintro e w2 ⟨rfl, b2'⟩
  have B2 := andThen b1' b2'; clear b1' b2'
  go_wp2_with fail
  refine (C4.out _ (HT.out.below B2)).mono ?_; rintro e w3 ⟨rfl, rfl⟩
  go_wp2_with fail
  refine (C5.out _).mono ?_; rintro e w3 ⟨rfl, rfl⟩
  go_wp2_with fail
  go_region_with (go_at_call 16; refine (C3.out _).mono ?_; rintro e w3 ⟨rfl, b3'⟩)
  have B3 := andThen B2 (andThen (((Below.refl _ _).alloc (Nat.le_refl _) _).drew) b3')
  clear B2 b3'
  go_wp2_with fail
  have C6 := Lib.hid (C6'.out w3.drew (HT.out.below B3.drew))
  have C7 := Lib.hid (C7'.out w3.drew (HT.out.below B3.drew))
  have C8 := Lib.hid (C8'.out w3.drew (HT.out.below B3.drew))
  go_region_with (first
    | (go_at_call_of 12 (Value.string P6); refine C6.out.mono ?_; rintro e w4 ⟨rfl, rfl⟩)
    | (go_at_call_of 12 (Value.string P7); refine C7.out.mono ?_; rintro e w4 ⟨rfl, rfl⟩)
    | (go_at_call 29; refine C8.out.mono ?_; rintro e w4 ⟨rfl, b4'⟩))
  have B4 := andThen (B3.drew) b4'
  clear B3 b4'
  go_wp2_with fail
  refine (C5.out _).mono ?_; rintro e w5 ⟨rfl, rfl⟩
  go_wp2_with fail
  refine (C9.out _).mono ?_; rintro e w5 ⟨rfl, b5'⟩
  have B5 := andThen B4 b5'; clear B4 b5'
  go_wp2_with fail
  refine (C10.out _ (HT.out.below B5)).mono ?_; rintro e w6 ⟨rfl, b6'⟩
  have B6 := andThen B5 b6'; clear B5 b6'
  go_wp2_with fail
  refine (C11.out _ (HT.out.below B6)).mono ?_; rintro e w7 ⟨rfl, rfl⟩
  go_wp2_with fail
  refine (awake_any _ (HT.out.below B6)).mono ?_; rintro e w9 ⟨rfl, hb9⟩
  go_wp2
  go_ret
  exact ⟨rfl, andThen B6 hb9⟩
end Go.Proofs.YtkgenpoenpkpeaaDoor
