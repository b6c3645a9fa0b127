/- The walk of DiskKnown, chapter 11 (disk). -/
import Derived.Test.YtiemlaofhmncdaaDiskAw
namespace Go.Proofs.Ytiemlaofhmncdaa
open Go.RowKit Disk11

theorem crashes2 : crashesD two2 = (4, 0) := by decide +kernel
theorem crashL : crashD two2 1 0 = (laid2, 0) := by decide +kernel
theorem readL : ((readD laid2 61 5).2 == 0 && (readD laid2 61 5).1 == [0, 97, 98, 99, 0]) = true := by decide +kernel
theorem readE : ((readD new2 128 0).2 == 0 && (readD new2 128 0).1 == []) = true := by decide +kernel
theorem readO : readD new2 128 1 = ([], 2) := by decide +kernel
theorem writeA : writeD new2 126 [97, 98, 99] = (none0, 2) := by decide +kernel
theorem writeB : writeD new2 5 [] = (none0, 2) := by decide +kernel
theorem newZ : newD 0 = (none0, 2) := rfl
theorem newM : newD 4097 = (none0, 2) := rfl

set_option maxHeartbeats 8000000 in
set_option maxRecDepth 100000 in
theorem DiskKnown_any (w : World) :
    Calls Try.prog 5 #[] w fun e w' => e = .returned (.bool true) ∧ Below w.heap.size w w' := by
  have HA := Lib.hid (fun W => awake_any W)
  have HT := Lib.hid (fun W => two_any W)
  have HCs := Lib.hid (fun v W h => Crashes_any two2 v W h)
  rw [crashes2] at HCs
  have HC := Lib.hid (fun v W h => (Crash_any two2 v 1 0 W h).mono (fun _ _ => as_disk (nb := 2) (nc := 0) 0 crashL rfl rfl rfl))
  have HN := Lib.hid (fun W => (New_any 2 W).mono (fun _ _ => as_disk (nb := 2) (nc := 0) 0 newD2 rfl rfl rfl))
  have HW1 := Lib.hid (fun v W h => (Write_any new2 v 126 [97, 98, 99] W h).mono (fun _ _ => as_disk (nb := 0) (nc := 0) 2 writeA rfl rfl rfl))
  have HW2 := Lib.hid (fun v W h => (Write_any new2 v 5 [] W h).mono (fun _ _ => as_disk (nb := 0) (nc := 0) 2 writeB rfl rfl rfl))
  have HR := Lib.hid (fun v W h => Read_any new2 v 128 1 W h)
  rw [readO] at HR
  have HN0 := Lib.hid (fun W => (New_any 0 W).mono (fun _ _ => as_disk (nb := 0) (nc := 0) 2 newZ rfl rfl rfl))
  have HN1 := Lib.hid (fun W => (New_any 4097 W).mono (fun _ _ => as_disk (nb := 0) (nc := 0) 2 newM rfl rfl rfl))
  have HX1 := Lib.hid (fun W => crash_any 2 0 W crashA)
  have HX2 := Lib.hid (fun W => crash_any 1 1 W crashB)
  have HX3 := Lib.hid (fun W => crash_any 0 4 W crashC)
  have HRL := Lib.hid (fun v W h => (reads_any laid2 v 61 [0, 97, 98, 99, 0] W h).mono (fun _ _ => as_read readL))
  have HRE := Lib.hid (fun v W h => (reads_any new2 v 128 [] W h).mono (fun _ _ => as_read readE))
  go_enter Try.func5, Try.ntmps5
  go_wp2_with fail
  refine (HT.out _).mono ?_
  rintro e w1 ⟨ab, cb, ac, cc, rfl, d1, b1⟩
  have a1 := Go.Joins.below_alloc1 w1 (.cells #[.slice ab 2 cb, .slice ac 1 cc] 25)
  have k1 := World.alloc_heap_new w1 (.cells #[.slice ab 2 cb, .slice ac 1 cc] 25)
  have t1 := b1.trans (a1.mono b1.size)
  have d1' := d1.below a1
  clear d1 b1 a1
  go_wp2_with fail
  refine (HCs.out _ _ d1').mono ?_
  rintro e w2 ⟨rfl, b2⟩
  have k2 := heap_below k1 b2
  have t2 := t1.trans (b2.mono t1.size)
  have d2 := d1'.below b2
  have x0 := cell2_0 k2
  have x1 := cell2_1 k2
  clear k1 t1 d1' b2
  go_wp2_with fail
  refine (HC.out _ _ d2).mono ?_
  rintro e w3 ⟨ab3, cb3, ac3, cc3, rfl, d3, b3⟩
  have a3 := Go.Joins.below_alloc1 w3 (.cells #[.slice ab3 2 cb3, .slice ac3 0 cc3] 25)
  have k3 := World.alloc_heap_new w3 (.cells #[.slice ab3 2 cb3, .slice ac3 0 cc3] 25)
  have t3 := (t2.trans (b3.mono t2.size)).trans (a3.mono (t2.trans (b3.mono t2.size)).size)
  have d3' := d3.below a3
  clear t2 d2 x0 x1 k2 d3 a3 b3
  go_wp2_with fail
  refine (HN.out _).mono ?_
  rintro e w4 ⟨ab4, cb4, ac4, cc4, rfl, d4, b4⟩
  have a4 := Go.Joins.below_alloc1 w4 (.cells #[.slice ab4 2 cb4, .slice ac4 0 cc4] 25)
  have k4 := World.alloc_heap_new w4 (.cells #[.slice ab4 2 cb4, .slice ac4 0 cc4] 25)
  have k34 := heap_below (heap_below k3 b4) a4
  have t4 := (t3.trans (b4.mono t3.size)).trans (a4.mono (t3.trans (b4.mono t3.size)).size)
  have d34 := (d3'.below b4).below a4
  have d4' := d4.below a4
  clear t3 d3' k3 d4 a4 b4
  go_wp2_with fail
  refine (HW1.out _ _ d4').mono ?_
  rintro e w5 ⟨ab5, cb5, ac5, cc5, rfl, _, b5⟩
  have q5 := b5.trans ((Go.Joins.below_alloc1 w5 (.cells #[.slice ab5 0 cb5, .slice ac5 0 cc5] 25)).mono b5.size)
  have k45 := heap_below k4 q5
  have k35 := heap_below k34 q5
  have t5 := t4.trans (q5.mono t4.size)
  have d5 := d4'.below q5
  have d35 := d34.below q5
  have x0 := cell2_0 k45
  have x1 := cell2_1 k45
  clear k4 k34 t4 d4' d34 q5 b5
  go_wp2_with fail
  refine (HW2.out _ _ d5).mono ?_
  rintro e w6 ⟨ab6, cb6, ac6, cc6, rfl, _, b6⟩
  have q6 := b6.trans ((Go.Joins.below_alloc1 w6 (.cells #[.slice ab6 0 cb6, .slice ac6 0 cc6] 25)).mono b6.size)
  have k46 := heap_below k45 q6
  have k36 := heap_below k35 q6
  have t6 := t5.trans (q6.mono t5.size)
  have d6 := d5.below q6
  have d36 := d35.below q6
  have x0 := cell2_0 k46
  have x1 := cell2_1 k46
  clear k45 k35 t5 d5 d35 q6 b6
  go_wp2_with fail
  refine (HR.out _ _ d6).mono ?_
  rintro e w7 ⟨rfl, b7⟩
  have k47 := heap_below k46 b7
  have k37 := heap_below k36 b7
  have t7 := t6.trans (b7.mono t6.size)
  have d7 := d6.below b7
  have d37 := d36.below b7
  clear k46 k36 t6 d6 d36 x0 x1 b7
  go_wp2_with fail
  refine (HN0.out _).mono ?_
  rintro e w8 ⟨ab8, cb8, ac8, cc8, rfl, _, b8⟩
  have q8 := b8.trans ((Go.Joins.below_alloc1 w8 (.cells #[.slice ab8 0 cb8, .slice ac8 0 cc8] 25)).mono b8.size)
  have k48 := heap_below k47 q8
  have k38 := heap_below k37 q8
  have t8 := t7.trans (q8.mono t7.size)
  have d8 := d7.below q8
  have d38 := d37.below q8
  clear k47 k37 t7 d7 d37 q8 b8
  go_wp2_with fail
  refine (HN1.out _).mono ?_
  rintro e w9 ⟨ab9, cb9, ac9, cc9, rfl, _, b9⟩
  have q9 := b9.trans ((Go.Joins.below_alloc1 w9 (.cells #[.slice ab9 0 cb9, .slice ac9 0 cc9] 25)).mono b9.size)
  have k49 := heap_below k48 q9
  have k39 := heap_below k38 q9
  have t9 := t8.trans (q9.mono t8.size)
  have d9 := d8.below q9
  have d39 := d38.below q9
  clear k48 k38 t8 d8 d38 q9 b9
  go_wp2_with fail
  refine (HX1.out _).mono ?_
  rintro e w10 ⟨rfl, b10⟩
  go_wp2_with fail
  refine (HX2.out _).mono ?_
  rintro e w11 ⟨rfl, b11⟩
  go_wp2_with fail
  refine (HX3.out _).mono ?_
  rintro e w12 ⟨rfl, b12⟩
  go_wp2_with fail
  refine (HA.out _).mono ?_
  rintro e w13 ⟨rfl, b13⟩
  have q13 := andThen (andThen (andThen b10 b11) b12) b13
  have k413 := heap_below k49 q13
  have k313 := heap_below k39 q13
  have t13 := t9.trans (q13.mono t9.size)
  have d13 := d9.below q13
  have d313 := d39.below q13
  have x0 := cell2_0 k313
  have x1 := cell2_1 k313
  clear k49 k39 t9 d9 d39 q13 b10 b11 b12 b13
  go_wp2_with fail
  refine (HRL.out _ _ d313).mono ?_
  rintro e w14 ⟨rfl, b14⟩
  have k414 := heap_below k413 b14
  have t14 := t13.trans (b14.mono t13.size)
  have d14 := d13.below b14
  have x0 := cell2_0 k414
  have x1 := cell2_1 k414
  clear k413 k313 t13 d13 d313 b14
  go_wp2_with fail
  refine (HRE.out _ _ d14).mono ?_
  rintro e w15 ⟨rfl, b15⟩
  go_wp2
  go_ret
  exact ⟨rfl, t14.trans (b15.mono t14.size)⟩
end Go.Proofs.Ytiemlaofhmncdaa
