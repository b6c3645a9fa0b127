/- The walks of chapter 3's small functions over bytes: plain, open, hex; the program's and the reference's. -/
import Derived.Test.YtbcofimmfbmkoaaDoorProg
import Derived.Test.YtbcofimmfbmkoaaDoorWordsMade
import Derived.Test.YtbcofimmfbmkoaaDoorKitB
import Derived.Test.YtbcofimmfbmkoaaDoorKitP
import Derived.Handy
import Derived.Outline
import Derived.Lib.Hide
namespace Go.Proofs.YtbcofimmfbmkoaaDoor
open Go.RowKit Words3

theorem byte_all {P : UInt8 → Prop} (h : ∀ n : Fin 256, P (UInt8.ofNat n.1)) (c : UInt8) : P c := by
  have := h ⟨c.toNat, UInt8.toNat_lt c⟩
  simpa using this
theorem openB_nat (c : UInt8) : openB c = decide (33 ≤ c.toNat ∧ c.toNat ≤ 126 ∧ c.toNat ≠ 34 ∧ c.toNat ≠ 61 ∧ c.toNat ≠ 92) := byte_all (P := fun c => openB c = decide (33 ≤ c.toNat ∧ c.toNat ≤ 126 ∧ c.toNat ≠ 34 ∧ c.toNat ≠ 61 ∧ c.toNat ≠ 92)) (by decide +kernel) c
theorem letter_nat (c : UInt8) : letter c = decide (97 ≤ c.toNat ∧ c.toNat ≤ 122) := byte_all (P := fun c => letter c = decide (97 ≤ c.toNat ∧ c.toNat ≤ 122)) (by decide +kernel) c
theorem digit_nat (c : UInt8) : digit c = decide (48 ≤ c.toNat ∧ c.toNat ≤ 57) := byte_all (P := fun c => digit c = decide (48 ≤ c.toNat ∧ c.toNat ≤ 57)) (by decide +kernel) c
theorem cont_nat (c : UInt8) : cont c = decide ((97 ≤ c.toNat ∧ c.toNat ≤ 122) ∨ c.toNat = 45 ∨ (48 ≤ c.toNat ∧ c.toNat ≤ 57)) := byte_all (P := fun c => cont c = decide ((97 ≤ c.toNat ∧ c.toNat ≤ 122) ∨ c.toNat = 45 ∨ (48 ≤ c.toNat ∧ c.toNat ≤ 57))) (by decide +kernel) c
/-- The value of a hexadecimal digit; -1 if it is none. -/
def hexI (c : UInt8) : Int := match hexV c with | some i => (i : Int) | none => -1
theorem hexI_nat (c : UInt8) : hexI c = if 48 ≤ c.toNat ∧ c.toNat ≤ 57 then (c.toNat : Int) - 48 else if 97 ≤ c.toNat ∧ c.toNat ≤ 102 then (c.toNat : Int) - 87 else -1 := byte_all (P := fun c => hexI c = if 48 ≤ c.toNat ∧ c.toNat ≤ 57 then (c.toNat : Int) - 48 else if 97 ≤ c.toNat ∧ c.toNat ≤ 102 then (c.toNat : Int) - 87 else -1) (by decide +kernel) c
theorem ret_bool {a b : Bool} (h : a = b) : Ending.returned (.bool a) = .returned (.bool b) := by rw [h]
theorem ret_i64 {a b : Int} (h : a = b) : Ending.returned (.int .i64 a) = .returned (.int .i64 b) := by rw [h]

theorem plain_any (c : UInt8) (w : World) : Calls Tryd.prog 51 #[.int .u8 (c.toNat : Int)] w fun e w' => e = .returned (.bool (openB c)) ∧ w = w' := by
  rw [openB_nat]
  have hn := UInt8.toNat_lt c
  generalize c.toNat = n at *
  go_enter Tryd.func51, Tryd.ntmps51
  go_wp2
  all_goals
    go_ret
    refine ⟨ret_bool ?_, rfl⟩
    try simp only [beq_iff_eq, beq_eq_false_iff_ne, ne_eq] at *
    rw [Bool.eq_iff_iff]
    simp only [decide_eq_true_eq, Bool.false_eq_true, Bool.and_eq_true, Bool.not_eq_true', decide_eq_false_iff_not]
    refine ⟨fun h => ?_, fun h => ?_⟩ <;> first | exact h.elim | omega
theorem open_any (c : UInt8) (w : World) : Calls Tryd.prog 52 #[.int .u8 (c.toNat : Int)] w fun e w' => e = .returned (.bool (openB c)) ∧ w = w' := by
  rw [openB_nat]
  have hn := UInt8.toNat_lt c
  generalize c.toNat = n at *
  go_enter Tryd.func52, Tryd.ntmps52
  go_wp2
  all_goals
    go_ret
    refine ⟨ret_bool ?_, rfl⟩
    try simp only [ne_eq] at *
    rw [Bool.eq_iff_iff]
    simp only [decide_eq_true_eq, Bool.false_eq_true, Bool.and_eq_true, Bool.not_eq_true', decide_eq_false_iff_not, bne_iff_ne, ne_eq]
    refine ⟨fun h => ?_, fun h => ?_⟩ <;> first | exact h.elim | omega
theorem hex_any (c : UInt8) (w : World) : Calls Tryd.prog 63 #[.int .u8 (c.toNat : Int)] w fun e w' => e = .returned (.int .i64 (hexI c)) ∧ w = w' := by
  rw [hexI_nat]
  have hn := UInt8.toNat_lt c
  generalize c.toNat = n at *
  by_cases h1 : 48 ≤ n ∧ n ≤ 57
  · rw [if_pos h1]
    obtain ⟨h2, h3⟩ := h1
    go_enter Tryd.func63, Tryd.ntmps63
    go_wp2
    go_ret
    exact ⟨rfl, rfl⟩
  · rw [if_neg h1]
    go_enter Tryd.func63, Tryd.ntmps63
    go_wp2
    all_goals
      go_ret
      refine ⟨ret_i64 ?_, rfl⟩
      try simp only at *
      try (first | omega | (split <;> omega))
end Go.Proofs.YtbcofimmfbmkoaaDoor
