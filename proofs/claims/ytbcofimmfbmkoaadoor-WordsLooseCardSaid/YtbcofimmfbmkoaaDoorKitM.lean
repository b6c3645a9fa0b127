/- The walk of Mod of the statements' kit: a number in its bounds. -/
import Derived.Test.YtbcofimmfbmkoaaDoorKitR
import Derived.IntWalk
namespace Go.Proofs.YtbcofimmfbmkoaaDoor
open Go.RowKit

def I64 (a : Int) : Prop := -9223372036854775808 ≤ a ∧ a ≤ 9223372036854775807
theorem tmod_pos (a n : Int) (ha : 0 ≤ a) (hn : 1 ≤ n) : ∃ m : Nat, Int.tmod a n = (m : Int) ∧ (m : Int) < n := by
  rw [Int.tmod_eq_emod_of_nonneg ha]
  exact ⟨(a % n).toNat, by have := Int.emod_nonneg a (show n ≠ 0 by omega); omega, by have := Int.emod_nonneg a (show n ≠ 0 by omega); have := Int.emod_lt_of_pos a (show 0 < n by omega); omega⟩
theorem tmod_neg (a n : Int) (ha : a < 0) (hn : 1 ≤ n) : ∃ m : Nat, Int.tmod a n = -(m : Int) ∧ (m : Int) < n := by
  obtain ⟨m, h1, h2⟩ := tmod_pos (-a) n (by omega) hn
  exact ⟨m, by rw [show a = -(-a) by omega, Int.neg_tmod, h1], h2⟩
set_option maxHeartbeats 1000000 in
theorem Mod_some (a n : Int) (w : World) (_ : I64 a) (h1 : 1 ≤ n) (h2 : n ≤ 4611686018427387904) :
    Calls Tryd.prog 32 #[.int .i64 a, .int .i64 n] w fun e w' => ∃ m : Nat, (m : Int) < n ∧ e = .returned (.int .i64 m) ∧ w = w' := by
  have hn1 : decide (n < 1) = false := by simp; omega
  have hn0 : (n == 0) = false := by simp; omega
  have hnn : ¬ n = 0 := by omega
  by_cases h : 0 ≤ a
  · obtain ⟨m, hm, hl⟩ := tmod_pos a n h h1
    have hw : IntKind.i64.wrap (m : Int) = (m : Int) := by rw [IntKind.wrap_i64]; omega
    have hm' : decide ((m : Int) < 0) = false := by simp
    go_enter Tryd.func32, Tryd.ntmps32
    go_wp2
    go_ret
    exact ⟨m, hl, rfl, rfl⟩
  · obtain ⟨m, hm, hl⟩ := tmod_neg a n (by omega) h1
    go_enter Tryd.func32, Tryd.ntmps32
    go_wp2
    · go_ret
      exact ⟨(-(m : Int) + n).toNat, by omega, by rw [Int.toNat_of_nonneg (by omega)]; rfl, rfl⟩
    · go_ret
      exact ⟨0, by omega, by rw [show -(m : Int) = ((0 : Nat) : Int) by omega]; rfl, rfl⟩

theorem I64_of {x : Int} (h : (Lit.int .i64 x).wf = true) : I64 x := by
  simp [Lit.wf, IntKind.min, IntKind.max, IntKind.bits, IntKind.signed] at h
  unfold I64; omega
end Go.Proofs.YtbcofimmfbmkoaaDoor
