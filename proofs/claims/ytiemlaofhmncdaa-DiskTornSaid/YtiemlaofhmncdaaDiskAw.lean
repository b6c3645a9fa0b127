/- The walk of the statements' examples, chapter 11 (disk). -/
import Derived.Test.YtiemlaofhmncdaaDiskTwo
namespace Go.Proofs.Ytiemlaofhmncdaa
open Go.RowKit Disk11

def torn2 : Dev := ([List.replicate 62 0 ++ [97, 98], List.replicate 64 0], [])
def laid2 : Dev := ([List.replicate 62 0 ++ [97, 98], 99 :: List.replicate 63 0], [])
theorem dirty2 : dirtyD two2 = ([0, 1], 0) := by decide +kernel
theorem crash2 : crashD two2 0 2 = (torn2, 0) := by decide +kernel
theorem read2 : ((readD two2 61 5).2 == 0 && (readD two2 61 5).1 == [0, 97, 98, 99, 0]) = true := by decide +kernel
theorem read2t : ((readD torn2 61 5).2 == 0 && (readD torn2 61 5).1 == [0, 97, 98, 0, 0]) = true := by decide +kernel
theorem as_read {B : Nat} {w w' : World} {e : Ending} {r : Bool} (hr : r = true) (h : e = .returned (.bool r) ∧ Below B w w') : e = .returned (.bool true) ∧ Below B w w' := by
  subst hr; exact h
theorem row_lit2 (W : World) (x y : Nat) : Row (W.alloc (.cells #[.int .i64 x, .int .i64 y] 3)) 1 (.slice (some ⟨W.heap.size, 0, none⟩) 2 2) 2 (intVals [x, y]) := by
  have k := World.alloc_heap_new W (.cells #[.int .i64 (x : Int), .int .i64 (y : Int)] 3)
  refine ⟨rfl, _, _, rfl, Nat.le_refl _, fun j v hj => ⟨_, rfl, ?_⟩⟩
  rw [addr_add]
  match j, hj with
  | 0, hj => simp [intVals] at hj; subst hj; exact cell2_0 k
  | 1, hj => simp [intVals] at hj; subst hj; exact cell2_1 k
  | j + 2, hj => simp [intVals] at hj

set_option maxHeartbeats 4000000 in
set_option maxRecDepth 100000 in
theorem awake_any (w : World) :
    Calls Try.prog 11 #[] w fun e w' => e = .returned (.bool true) ∧ Below w.heap.size w w' := by
  have HT := Lib.hid (fun W => two_any W)
  have HD := Lib.hid (fun v W h => Dirty_any two2 v W h)
  rw [dirty2] at HD
  have HC := Lib.hid (fun v W h => (Crash_any two2 v 0 2 W h).mono (fun _ _ => as_disk (nb := 2) (nc := 0) 0 crash2 rfl rfl rfl))
  have HR := Lib.hid (fun v W h => (reads_any two2 v 61 [0, 97, 98, 99, 0] W h).mono (fun _ _ => as_read read2))
  have HR2 := Lib.hid (fun v W h => (reads_any torn2 v 61 [0, 97, 98, 0, 0] W h).mono (fun _ _ => as_read read2t))
  have HS := Lib.hid (fun v1 v2 W r1 r2 => (SameInts_any [0, 1] [0, 1] v1 v2 W r1 r2 (by decide)).mono (fun _ _ => as_read (by decide)))
  go_enter Try.func11, Try.ntmps11
  go_wp2_with fail
  refine (HT.out _).mono ?_
  rintro e w1 ⟨ab, cb, ac, cc, rfl, d1, b1⟩
  have a1 := Go.Joins.below_alloc1 w1 (.cells #[.slice ab 2 cb, .slice ac 1 cc] 25)
  have k1 := World.alloc_heap_new w1 (.cells #[.slice ab 2 cb, .slice ac 1 cc] 25)
  have t1 := b1.trans (a1.mono b1.size)
  go_wp2_with fail
  refine (HD.out _ _ (d1.below a1)).mono ?_
  rintro e w2 ⟨vi, rfl, i2, b2⟩
  have k2 := heap_below k1 b2
  have t2 := t1.trans (b2.mono t1.size)
  have d2 := d1.below (a1.trans (b2.mono a1.size))
  have r2 := Row.of_own i2
  obtain ⟨iad, ic, rfl⟩ := i2.slice
  have x0 := cell2_0 k2
  have x1 := cell2_1 k2
  clear a1 k1 t1 d1 b1 b2 i2
  go_wp2_with fail
  refine (HC.out _ _ d2).mono ?_
  rintro e w3 ⟨ab3, cb3, ac3, cc3, rfl, d3, b3⟩
  have a3 := Go.Joins.below_alloc1 w3 (.cells #[.slice ab3 2 cb3, .slice ac3 0 cc3] 25)
  have k3 := World.alloc_heap_new w3 (.cells #[.slice ab3 2 cb3, .slice ac3 0 cc3] 25)
  have k2' := heap_below (heap_below k2 b3) a3
  have t3 := (t2.trans (b3.mono t2.size)).trans (a3.mono (t2.trans (b3.mono t2.size)).size)
  have d2' := (d2.below b3).below a3
  have d3' := d3.below a3
  have r3 := (r2.below b3).below a3
  have x0 := cell2_0 k2'
  have x1 := cell2_1 k2'
  clear a3 t2 d2 d3 b3 r2 k2
  go_wp2_with fail
  refine (HR.out _ _ d2').mono ?_
  rintro e w4 ⟨rfl, b4⟩
  have t4 := t3.trans (b4.mono t3.size)
  have d4 := d3'.below b4
  have k4 := heap_below k3 b4
  have r4 := r3.below b4
  have a5 := Go.Joins.below_alloc1 w4 (.cells #[.int .i64 0, .int .i64 1] 3)
  clear x0 x1
  go_wp2_with fail
  refine (HS.out _ _ _ (r4.below a5) (row_lit2 w4 0 1)).mono ?_
  rintro e w5 ⟨rfl, b5⟩
  have b45 := a5.trans (b5.mono a5.size)
  have t5 := t4.trans (b45.mono t4.size)
  have k5 := heap_below k4 b45
  have d5 := d4.below b45
  have x0 := cell2_0 k5
  have x1 := cell2_1 k5
  go_wp2_with fail
  refine (HR2.out _ _ d5).mono ?_
  rintro e w6 ⟨rfl, b6⟩
  go_wp2
  go_ret
  exact ⟨rfl, t5.trans (b6.mono t5.size)⟩

theorem crashA : crashD two2 2 0 = (none0, 2) := by decide +kernel
theorem crashB : crashD two2 1 1 = (none0, 2) := by decide +kernel
theorem crashC : crashD two2 0 4 = (none0, 2) := by decide +kernel
set_option maxHeartbeats 2000000 in
set_option maxRecDepth 100000 in
theorem crash_any (k t : Int) (w : World) (h : crashD two2 k t = (none0, 2)) :
    Calls Try.prog 25 #[.int .i64 k, .int .i64 t] w fun e w' => e = .returned (.int .i64 2) ∧ Below w.heap.size w w' := by
  have HT := Lib.hid (fun W => two_any W)
  have HC := Lib.hid (fun v W hv => (Crash_any two2 v k t W hv).mono (fun _ _ => as_disk (nb := 0) (nc := 0) 2 h rfl rfl rfl))
  clear h
  go_enter Try.func25, Try.ntmps25
  go_wp2_with fail
  refine (HT.out _).mono ?_
  rintro e w1 ⟨ab, cb, ac, cc, rfl, d1, b1⟩
  have a1 := Go.Joins.below_alloc1 w1 (.cells #[.slice ab 2 cb, .slice ac 1 cc] 25)
  have t1 := b1.trans (a1.mono b1.size)
  go_wp2_with fail
  refine (HC.out _ _ (d1.below a1)).mono ?_
  rintro e w3 ⟨ab3, cb3, ac3, cc3, rfl, d3, b3⟩
  have t3 := t1.trans (b3.mono t1.size)
  go_wp2
  go_ret
  exact ⟨rfl, t3.alloc t3.size _⟩
end Go.Proofs.Ytiemlaofhmncdaa
