/- Small laws: the first texts of a row of texts. -/
import Derived.Test.YthhghggaoljcbaaDoorKitAll
import Derived.Laws.IdiomStrings
namespace Go.Proofs.YthhghggaoljcbaaDoor
open Go.RowKit

theorem sliced_row {w : World} {ad : Option Addr} {n c : Nat} {xs : List Value} (h : Row w 1 (.slice ad n c) n xs) (i j m : Nat) (hij : i ≤ j) (hj : j ≤ n) (hm : m = c) : Row w 1 (sliced ad i j m 1) (j - i) ((xs.drop i).take (j - i)) := by
  subst hm
  obtain ⟨h1, ad', c', h2, h3, h4⟩ := h
  cases h2
  refine ⟨by rw [List.length_take, List.length_drop]; omega, _, _, rfl, by omega, fun k x hk => ?_⟩
  have hkl : k < j - i := by
    rcases Nat.lt_or_ge k (j - i) with h | h
    · exact h
    · rw [List.getElem?_eq_none (by rw [List.length_take]; omega)] at hk; cases hk
  rw [List.getElem?_take_of_lt hkl, List.getElem?_drop] at hk
  obtain ⟨a, rfl, hc⟩ := h4 _ _ hk
  refine ⟨a.add (i * 1), ?_, by rw [Addr.add_add, Nat.mul_one]; exact hc⟩
  rw [if_neg (by omega)]; rfl
theorem strVals_drop (l : List (List UInt8)) (i : Nat) : (strVals l).drop i = strVals (l.drop i) := by unfold strVals; exact List.map_drop.symm
theorem strVals_take (l : List (List UInt8)) (i : Nat) : (strVals l).take i = strVals (l.take i) := by unfold strVals; exact List.map_take.symm
theorem size_strs (W : World) : (Go.sizeOf (Tryd.prog.elem 22)).run Tryd.prog W = .ok 1 W := by
  rw [show Tryd.prog.elem 22 = 9 by kernel_rfl]
  exact Tryd.sizeOf9 W
/-- The texts from the i-th on. -/
theorem part_from {w : World} {ad : Option Addr} {c : Nat} {l : List (List UInt8)} (h : Row w 1 (.slice ad l.length c) l.length (strVals l)) (i : Nat) (hi : i ≤ l.length) :
    ∃ ad' c', (∀ W, (Instr.slice 22 (.slice ad l.length c) (some (.int .i64 (i : Int))) none none).run Tryd.prog W = .ok (.slice ad' (l.length - i) c') W) ∧ Row w 1 (.slice ad' (l.length - i) c') (l.drop i).length (strVals (l.drop i)) := by
  have hr := sliced_row h i l.length c hi (Nat.le_refl _) rfl
  rw [strVals_drop, List.take_of_length_le (by rw [strVals_length, List.length_drop]; omega)] at hr
  refine ⟨_, _, fun W => ?_, by rw [List.length_drop]; exact hr⟩
  rw [run_slice_l (P := Tryd.prog) W 22 ad l.length c (by kernel_rfl) .i64 (i : Int) (by omega) (by omega), size_strs]
  simp only [Result.andThen, sliced, Int.toNat_natCast]
/-- The first i texts. -/
theorem part_to {w : World} {ad : Option Addr} {c : Nat} {l : List (List UInt8)} (h : Row w 1 (.slice ad l.length c) l.length (strVals l)) (i : Nat) (hi : i ≤ l.length) :
    ∃ ad' c', (∀ W, (Instr.slice 22 (.slice ad l.length c) none (some (.int .i64 (i : Int))) none).run Tryd.prog W = .ok (.slice ad' i c') W) ∧ Row w 1 (.slice ad' i c') (l.take i).length (strVals (l.take i)) := by
  have hr := sliced_row h 0 i c (Nat.zero_le _) hi rfl
  rw [List.drop_zero, strVals_take, Nat.sub_zero] at hr
  have hc : l.length ≤ c := by obtain ⟨_, _, _, h2, h3, _⟩ := h; cases h2; exact h3
  refine ⟨_, _, fun W => ?_, by rw [List.length_take, Nat.min_eq_left hi]; unfold sliced at hr; rw [Nat.sub_zero] at hr; exact hr⟩
  rw [run_slice_h (P := Tryd.prog) W 22 ad l.length c (by kernel_rfl) .i64 (i : Int) (by omega) (by omega), size_strs]
  simp only [Result.andThen, sliced, Int.toNat_natCast, Nat.sub_zero]
end Go.Proofs.YthhghggaoljcbaaDoor
