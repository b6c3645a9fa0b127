/- The walks of Mod and At of the statements' kit: a number in its bounds; a number of a list. -/
import Derived.Test.YtiemlaofhmncdaaKitV
import Derived.IntWalk
namespace Go.Proofs.Ytiemlaofhmncdaa
open Go.RowKit

def I64 (a : Int) : Prop := -9223372036854775808 ≤ a ∧ a ≤ 9223372036854775807
theorem tmod_pos (a n : Int) (ha : 0 ≤ a) (hn : 1 ≤ n) : ∃ m : Nat, Int.tmod a n = (m : Int) ∧ (m : Int) < n := by
  rw [Int.tmod_eq_emod_of_nonneg ha]
  exact ⟨(a % n).toNat, by have := Int.emod_nonneg a (show n ≠ 0 by omega); omega, by have := Int.emod_nonneg a (show n ≠ 0 by omega); have := Int.emod_lt_of_pos a (show 0 < n by omega); omega⟩
theorem tmod_neg (a n : Int) (ha : a < 0) (hn : 1 ≤ n) : ∃ m : Nat, Int.tmod a n = -(m : Int) ∧ (m : Int) < n := by
  obtain ⟨m, h1, h2⟩ := tmod_pos (-a) n (by omega) hn
  exact ⟨m, by rw [show a = -(-a) by omega, Int.neg_tmod, h1], h2⟩
set_option maxHeartbeats 1000000 in
theorem Mod_some (a n : Int) (w : World) (_ : I64 a) (h1 : 1 ≤ n) (h2 : n ≤ 4611686018427387904) :
    Calls Try.prog 28 #[.int .i64 a, .int .i64 n] w fun e w' => ∃ m : Nat, (m : Int) < n ∧ e = .returned (.int .i64 m) ∧ w = w' := by
  have hn1 : decide (n < 1) = false := by simp; omega
  have hn0 : (n == 0) = false := by simp; omega
  have hnn : ¬ n = 0 := by omega
  by_cases h : 0 ≤ a
  · obtain ⟨m, hm, hl⟩ := tmod_pos a n h h1
    have hw : IntKind.i64.wrap (m : Int) = (m : Int) := by rw [IntKind.wrap_i64]; omega
    have hm' : decide ((m : Int) < 0) = false := by simp
    go_enter Try.func28, Try.ntmps28
    go_wp2
    go_ret
    exact ⟨m, hl, rfl, rfl⟩
  · obtain ⟨m, hm, hl⟩ := tmod_neg a n (by omega) h1
    go_enter Try.func28, Try.ntmps28
    go_wp2
    · go_ret
      exact ⟨(-(m : Int) + n).toNat, by omega, by rw [Int.toNat_of_nonneg (by omega)]; rfl, rfl⟩
    · go_ret
      exact ⟨0, by omega, by rw [show -(m : Int) = ((0 : Nat) : Int) by omega]; rfl, rfl⟩

set_option maxHeartbeats 1000000 in
theorem At_some (l : List Int) (v : Value) (i : Nat) (w : World) (h : Row w 1 v l.length (l.map fun n => .int .i64 n)) (hw : ∀ n ∈ l, (Lit.int .i64 n).wf = true) (hi : i ≤ 4611686018427387904) :
    Calls Try.prog 46 #[v, .int .i64 i] w fun e w' => ∃ x : Int, I64 x ∧ e = .returned (.int .i64 x) ∧ w = w' := by
  obtain ⟨ad, c, rfl, hc⟩ := h.slice
  by_cases hlt : i < l.length
  · have hlt' : decide ((l.length : Int) ≤ i) = false := by simp; omega
    have q : (l.map fun n => Value.int .i64 n)[i]? = some (.int .i64 l[i]) := by rw [List.getElem?_map, List.getElem?_eq_getElem hlt]; rfl
    obtain ⟨a, rfl, hc⟩ := h.cell q
    have hwf := hw _ (List.getElem_mem hlt)
    generalize l[i] = x at hc hwf
    have hx : I64 x := by
      have := hwf
      simp [Lit.wf, IntKind.min, IntKind.max, IntKind.bits, IntKind.signed] at this
      unfold I64; omega
    have hX := Lib.hid hx
    clear hx hwf q hw h
    go_enter Try.func46, Try.ntmps46
    go_wp2
    go_ret
    exact ⟨x, hX.out, rfl, rfl⟩
  · have hlt' : decide ((l.length : Int) ≤ i) = true := by simp; omega
    clear h hw
    go_enter Try.func46, Try.ntmps46
    go_wp2
    go_ret
    exact ⟨0, by unfold I64; omega, rfl, rfl⟩
end Go.Proofs.Ytiemlaofhmncdaa
