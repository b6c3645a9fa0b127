/- The walks of Check, of the reference's Check and of the comparison of states, chapter 10. -/
import Derived.Test.YtcpahelmaejjeaaDoorFeedPlain
import Derived.Test.YtcpahelmaejjeaaDoorShelf
import Derived.Test.YtcpahelmaejjeaaDoorKitR
import Derived.Test.YtcpahelmaejjeaaDoorStuffB
namespace Go.Proofs.YtcpahelmaejjeaaDoor
open Go.RowKit Go.Shelf Stuff10

theorem index_any (h : List UInt8) (w : World) :
    Calls Tryd.prog 39 #[.string ⟨h.toArray⟩, .int .u8 0] w fun e w' => e = .returned (.int .i64 (if zi h < h.length then (zi h : Int) else -1)) ∧ w = w' :=
  (Tryd.strings_IndexByte ⟨h.toArray⟩ 0 w).mono fun e w' ⟨he, hw⟩ => ⟨by rw [he]; exact congrArg (fun x => Ending.returned (.int .i64 x)) (index_zero h), hw.symm⟩
theorem checkF_long {h : List UInt8} {o : Bool} (a : 1300 < h.length) : checkF (h, o) = 12 := by unfold checkF; rw [decide_eq_true a]; rfl
theorem checkF_zero {h : List UInt8} {o : Bool} (a : zi h < h.length) : checkF (h, o) = 12 := by unfold checkF; rw [nz_zi, decide_eq_true a]; simp
theorem checkF_rest {h : List UInt8} {o : Bool} (a : ¬ 1300 < h.length) (b : ¬ zi h < h.length) : checkF (h, o) = if (o && !h.isEmpty) = true then 12 else 0 := by
  unfold checkF
  rw [nz_zi, decide_eq_false a, decide_eq_false b]; rfl

set_option maxHeartbeats 1000000 in
theorem CheckS_any (h : List UInt8) (o : Bool) (w : World) :
    Calls Tryd.prog 26 #[.agg #[.string ⟨h.toArray⟩, .bool o]] w fun e w' => e = .returned (.int .i64 (checkF (h, o) : Int)) ∧ Below w.heap.size w w' := by
  have b0 := Go.Joins.below_alloc1 w (.cells #[.string ⟨h.toArray⟩, .bool o] 42)
  have HI := Lib.hid (fun W => index_any h W)
  by_cases a : 1300 < h.length
  · have a' : decide ((1300 : Int) < h.length) = true := by simp; omega
    rw [checkF_long a]
    clear a
    go_enter Tryd.func26, Tryd.ntmps26
    go_wp2
    go_ret
    exact ⟨rfl, b0⟩
  · have a' : decide ((1300 : Int) < h.length) = false := by simp; omega
    by_cases b : zi h < h.length
    · rw [checkF_zero b]
      rw [if_pos b] at HI
      have b' : decide ((0 : Int) ≤ (zi h : Int)) = true := by simp
      clear a b
      go_enter Tryd.func26, Tryd.ntmps26
      go_wp2_with fail
      refine (HI.out _).mono ?_
      rintro e w' ⟨rfl, rfl⟩
      go_wp2
      go_ret
      exact ⟨rfl, b0⟩
    · rw [checkF_rest a b]
      rw [if_neg b] at HI
      clear a b
      cases o with
      | false =>
        go_enter Tryd.func26, Tryd.ntmps26
        go_wp2_with fail
        refine (HI.out _).mono ?_
        rintro e w' ⟨rfl, rfl⟩
        go_wp2
        go_ret
        exact ⟨rfl, b0⟩
      | true =>
        cases h with
        | nil =>
          go_enter Tryd.func26, Tryd.ntmps26
          go_wp2_with fail
          refine (HI.out _).mono ?_
          rintro e w' ⟨rfl, rfl⟩
          go_wp2
          go_ret
          exact ⟨rfl, b0⟩
        | cons c h =>
          obtain ⟨y, hy⟩ : ∃ y, y = c :: h := ⟨_, rfl⟩
          have hye : y.isEmpty = false := by rw [hy]; rfl
          rw [← hy] at HI a' b0 ⊢
          have hr : (if (true && !y.isEmpty) = true then 12 else 0) = 12 := by rw [hye]; rfl
          rw [hr]
          clear hr hy
          go_enter Tryd.func26, Tryd.ntmps26
          go_wp2_with fail
          refine (HI.out _).mono ?_
          rintro e w' ⟨rfl, rfl⟩
          go_wp2
          go_ret
          exact ⟨rfl, b0⟩
end Go.Proofs.YtcpahelmaejjeaaDoor
