/- The walk of the statement DiskCrashes, chapter 11 (disk). -/
import Derived.Test.YtiemlaofhmncdaaDiskLw
namespace Go.Proofs.Ytiemlaofhmncdaa
open Go.RowKit Disk11

/-- A device is laid anew into a box of a device. -/
theorem set_disk {w : World} {g t : Nat} {a1 a2 : Option Addr} {n1 c1 n2 c2 : Nat} (hk : w.heap[g]? = some (.cells #[.slice a1 n1 c1, .slice a2 n2 c2] t (0, 0))) (b1 b2 : Option Addr) (m1 e1 m2 e2 : Nat) :
    ((w.setCell ⟨g, 0, none⟩ (.slice b1 m1 e1)).setCell ⟨g, 1, none⟩ (.slice b2 m2 e2)).heap[g]? = some (.cells #[.slice b1 m1 e1, .slice b2 m2 e2] t (0, 0)) ∧
    (∀ {g' : Nat} {o : Obj}, g' ≠ g → w.heap[g']? = some o → ((w.setCell ⟨g, 0, none⟩ (.slice b1 m1 e1)).setCell ⟨g, 1, none⟩ (.slice b2 m2 e2)).heap[g']? = some o) ∧
    (∀ {w0 : World} {B : Nat}, B ≤ g → Below B w0 w → Below B w0 ((w.setCell ⟨g, 0, none⟩ (.slice b1 m1 e1)).setCell ⟨g, 1, none⟩ (.slice b2 m2 e2))) ∧
    (∀ {d : Dev} {v : Value}, DiskIs w d v → DiskIs ((w.setCell ⟨g, 0, none⟩ (.slice b1 m1 e1)).setCell ⟨g, 1, none⟩ (.slice b2 m2 e2)) d v) :=
  ⟨set_two hk, fun hne h => one_other hne (one_other hne h), fun hB h => below_set (below_set h hB) hB,
    fun h => disk_apart (disk_apart h hk) (Lib.heap_setCell_same (i := 0) hk _)⟩

set_option maxHeartbeats 4000000 in
set_option maxRecDepth 100000 in
theorem DiskCrashes_any (d : Dev) (v : Value) (p n : Int) (w : World) (h : DiskIs w d v) :
    Calls Try.prog 7 #[v, .int .i64 p, .int .i64 n] w fun e w' => e = .returned (.bool true) ∧ Below w.heap.size w w' := by
  have HA := Lib.hid (fun W => awake_any W)
  have HL := Lib.hid (fun v W h => LightDisk_any d v 40 40 W h (by decide) (by decide))
  obtain ⟨q, hq⟩ : ∃ q, q = light d 40 40 := ⟨_, rfl⟩
  rw [← hq] at HL
  have hD := Lib.hid h
  obtain ⟨ab, cb, ac, cc, rfl, _, _, _, _⟩ := h.form
  clear h
  have b0 := Go.Joins.below_alloc1 w (.cells #[.slice ab d.1.length cb, .slice ac d.2.length cc] 25)
  have k0 := World.alloc_heap_new w (.cells #[.slice ab d.1.length cb, .slice ac d.2.length cc] 25)
  have hd0 := Lib.hid (hD.out.below b0)
  cases q with
  | false =>
    clear hq
    go_enter Try.func7, Try.ntmps7
    go_wp2_with fail
    refine (HL.out _ _ hd0.out).mono ?_
    rintro e w1 ⟨rfl, b1⟩
    go_wp2_with fail
    refine (HA.out _).mono ?_
    rintro e w2 ⟨rfl, b2⟩
    go_wp2
    go_ret
    exact ⟨rfl, b0.trans ((andThen b1 b2).mono b0.size)⟩
  | true =>
    obtain ⟨l1, l2, _, _⟩ := (light_iff d 40 40).1 hq.symm
    clear hq
    obtain ⟨hs1, hs2⟩ := syncD_len d
    obtain ⟨hc1, hc2⟩ := crashD_len d p n
    have hy1 := dirtyD_len d
    have HO := Lib.hid (fun v W h => OwnDisk_is d v W h (by omega) (by omega))
    have HY := Lib.hid (fun v W h => (Sync_any d v W h).mono (fun _ _ => as_diskN))
    have HRY := Lib.hid (fun v W h => (RSync_any d v W h).mono (fun _ _ => as_diskN))
    have HC := Lib.hid (fun v W h => (Crash_any d v p n W h).mono (fun _ _ => as_diskN))
    have HRC := Lib.hid (fun v W h => (RCrash_any d v p n W h).mono (fun _ _ => as_diskN))
    have HN := Lib.hid (fun v W h => Crashes_any d v W h)
    have HRN := Lib.hid (fun v W h => RCrashes_any d v W h)
    have HT := Lib.hid (fun v W h => Dirty_any d v W h)
    have HRT := Lib.hid (fun v W h => RDirty_any d v W h)
    have HSD := Lib.hid (fun v1 v2 W r1 r2 => SameDisk_same d v1 v2 W r1 r2 (by omega) (by omega))
    generalize syncD d = r at HY HRY hs1 hs2
    generalize crashD d p n = x at HC HRC hc1 hc2
    generalize crashesD d = c at HN HRN
    generalize dirtyD d = y at HT HRT hy1
    obtain ⟨rd, rk⟩ := r
    obtain ⟨xd, xk⟩ := x
    obtain ⟨cn, ck⟩ := c
    obtain ⟨yl, yk⟩ := y
    dsimp only at HY HRY HC HRC HN HRN HT HRT hs1 hs2 hc1 hc2 hy1
    have HSR := Lib.hid (fun v1 v2 W r1 r2 => SameDisk_same rd v1 v2 W r1 r2 (by omega) (by omega))
    have HSX := Lib.hid (fun v1 v2 W r1 r2 => SameDisk_same xd v1 v2 W r1 r2 (by omega) (by omega))
    have HSI := Lib.hid (fun v1 v2 W r1 r2 => SameInts_same yl v1 v2 W r1 r2 (by omega))
    clear hs1 hs2 hc1 hc2 hy1
    go_enter Try.func7, Try.ntmps7
    go_wp2_with fail
    refine (HL.out _ _ hd0.out).mono ?_
    rintro e w1 ⟨rfl, b1⟩
    have k1 := heap_below k0 b1
    have x1 := cell2_1 k1
    have x0 := cell2_0 k1
    have t1 := b0.trans (b1.mono b0.size)
    have d1 := hD.out.below t1
    clear b1 k0 b0
    go_wp2_with fail
    refine (HO.out _ _ d1).mono ?_
    rintro e w2 ⟨ob, ocb, oc, occ, rfl, d2, b2⟩
    have k2 := World.alloc_heap_new w2 (.cells #[.slice ob d.1.length ocb, .slice oc d.2.length occ] 25)
    have a2 := Go.Joins.below_alloc1 w2 (.cells #[.slice ob d.1.length ocb, .slice oc d.2.length occ] 25)
    have q2 := b2.trans (a2.mono b2.size)
    have t2 := t1.trans (q2.mono t1.size)
    have z2 : w.heap.size < w2.heap.size := Nat.lt_of_lt_of_le (Array.getElem?_eq_some_iff.1 k1).1 b2.size
    have k12 := heap_below k1 q2
    have d2' := d2.below a2
    clear t1 b2 a2 k1 d1 d2 q2 x0 x1
    go_wp2_with fail
    refine (HY.out _ _ d2').mono ?_
    rintro e w5 ⟨wb, wn, wcb, wc, wm, wcc, rfl, d5, b5⟩
    have k5 := World.alloc_heap_new w5 (.cells #[.slice wb wn wcb, .slice wc wm wcc] 25)
    have a5 := Go.Joins.below_alloc1 w5 (.cells #[.slice wb wn wcb, .slice wc wm wcc] 25)
    have q5 := b5.trans (a5.mono b5.size)
    have t5 := t2.trans (q5.mono t2.size)
    have z5 : w2.heap.size < w5.heap.size := Nat.lt_of_lt_of_le (Array.getElem?_eq_some_iff.1 k2).1 b5.size
    have k45 := heap_below k2 q5
    have k15 := heap_below k12 q5
    have d45 := d2'.below q5
    have d5' := d5.below a5
    have d15 := hD.out.below t5
    have x0 := cell2_0 k15
    have x1 := cell2_1 k15
    clear t2 b5 a5 q5 k2 k12 d2' d5
    go_wp2_with fail
    refine (HRY.out _ _ d15).mono ?_
    rintro e w6 ⟨wb2, wn2, wcb2, wc2, wm2, wcc2, rfl, d6, b6⟩
    have k6 := World.alloc_heap_new w6 (.cells #[.slice wb2 wn2 wcb2, .slice wc2 wm2 wcc2] 25)
    have a6 := Go.Joins.below_alloc1 w6 (.cells #[.slice wb2 wn2 wcb2, .slice wc2 wm2 wcc2] 25)
    have q6 := b6.trans (a6.mono b6.size)
    have t6 := t5.trans (q6.mono t5.size)
    have z6 : w5.heap.size < w6.heap.size := Nat.lt_of_lt_of_le (Array.getElem?_eq_some_iff.1 k5).1 b6.size
    have k56 := heap_below k5 q6
    have k46 := heap_below k45 q6
    have k16 := heap_below k15 q6
    have d46 := d45.below q6
    have d56 := d5'.below q6
    have d6' := d6.below a6
    have x0 := cell2_0 k56
    have x1 := cell2_1 k56
    clear t5 b6 a6 q6 k5 k45 k15 d45 d5' d6 d15
    go_wp2_with fail
    refine (HSR.out _ _ _ d56 d6').mono ?_
    rintro e w7 ⟨rfl, b7⟩
    have t7 := t6.trans (b7.mono t6.size)
    have k67 := heap_below k6 b7
    have k57 := heap_below k56 b7
    have k47 := heap_below k46 b7
    have k17 := heap_below k16 b7
    have d47 := d46.below b7
    have x0 := cell2_0 k47
    have x1 := cell2_1 k47
    clear t6 k46 k16 d46 d56 d6' b7 k6 k56
    go_wp2_with fail
    refine (HC.out _ _ d47).mono ?_
    rintro e w8 ⟨xb, xn, xcb, xc, xm, xcc, rfl, d8, b8⟩
    have t8 := t7.trans (b8.mono t7.size)
    obtain ⟨S1, S2, S3, S4⟩ := set_disk (heap_below k57 b8) xb xc xn xcb xm xcc
    have x0 := cell2_0 (heap_below k57 b8)
    have x1 := cell2_1 (heap_below k57 b8)
    have f0 := frozen2 (heap_below k57 b8) 0
    have f1 := frozen2 (heap_below k57 b8) 1
    have k68 := S2 (by omega) (heap_below k67 b8)
    have k48 := S2 (by omega) (heap_below k47 b8)
    have k18 := S2 (by omega) (heap_below k17 b8)
    have t8' := S3 (by omega) t8
    have d88 := S4 d8
    have d48 := S4 (d47.below b8)
    have d18 := hD.out.below t8'
    have y0 := cell2_0 k18
    have y1 := cell2_1 k18
    have hS := Lib.hid S1
    clear S1 S2 S3 S4 t7 t8 k67 k57 k47 k17 d47 b8 d8
    go_wp2_with fail
    refine (HRC.out _ _ d18).mono ?_
    rintro e w9 ⟨xb2, xn2, xcb2, xc2, xm2, xcc2, rfl, d9, b9⟩
    have t9 := t8'.trans (b9.mono t8'.size)
    obtain ⟨S1, S2, S3, S4⟩ := set_disk (heap_below k68 b9) xb2 xc2 xn2 xcb2 xm2 xcc2
    have x0 := cell2_0 (heap_below k68 b9)
    have x1 := cell2_1 (heap_below k68 b9)
    have f0 := frozen2 (heap_below k68 b9) 0
    have f1 := frozen2 (heap_below k68 b9) 1
    have k59 := S2 (by omega) (heap_below hS.out b9)
    have k49 := S2 (by omega) (heap_below k48 b9)
    have k19 := S2 (by omega) (heap_below k18 b9)
    have t9' := S3 (by omega) t9
    have d99 := S4 d9
    have d89 := S4 (d88.below b9)
    have d49 := S4 (d48.below b9)
    have hS2 := Lib.hid S1
    clear S1 S2 S3 S4 t8' t9 k68 k48 k18 d48 b9 d9 d88 hS d18 y0 y1
    have y0 := cell2_0 k59
    have y1 := cell2_1 k59
    have y2 := cell2_0 hS2.out
    have y3 := cell2_1 hS2.out
    go_wp2_with fail
    refine (HSX.out _ _ _ d89 d99).mono ?_
    rintro e w10 ⟨rfl, b10⟩
    have t10 := t9'.trans (b10.mono t9'.size)
    have k410 := heap_below k49 b10
    have k110 := heap_below k19 b10
    have d410 := d49.below b10
    have d110 := hD.out.below t10
    have x0 := cell2_0 k410
    have x1 := cell2_1 k410
    clear t9' k49 k19 d49 d89 d99 b10 hS2 k59 y0 y1 y2 y3 f0 f1
    go_wp2_with fail
    refine (HN.out _ _ d410).mono ?_
    rintro e w11 ⟨rfl, b11⟩
    have t11 := t10.trans (b11.mono t10.size)
    have k411 := heap_below k410 b11
    have k111 := heap_below k110 b11
    have d411 := d410.below b11
    have d111 := hD.out.below t11
    have x0 := cell2_0 k111
    have x1 := cell2_1 k111
    clear t10 k410 k110 d410 d110 b11
    go_wp2_with fail
    refine (HRN.out _ _ d111).mono ?_
    rintro e w12 ⟨rfl, b12⟩
    have t12 := t11.trans (b12.mono t11.size)
    have k412 := heap_below k411 b12
    have k112 := heap_below k111 b12
    have d412 := d411.below b12
    have d112 := hD.out.below t12
    have x0 := cell2_0 k412
    have x1 := cell2_1 k412
    clear t11 k411 k111 d411 d111 b12
    go_wp2_with fail
    refine (HT.out _ _ d412).mono ?_
    rintro e w13 ⟨vi, rfl, i13, b13⟩
    have t13 := t12.trans (b13.mono t12.size)
    have k413 := heap_below k412 b13
    have k113 := heap_below k112 b13
    have d413 := d412.below b13
    have d113 := hD.out.below t13
    have r13 := Row.of_own i13
    obtain ⟨iad, icp, rfl⟩ := i13.slice
    have x0 := cell2_0 k113
    have x1 := cell2_1 k113
    clear t12 k412 k112 d412 d112 b13 i13
    go_wp2_with fail
    refine (HRT.out _ _ d113).mono ?_
    rintro e w14 ⟨vj, rfl, i14, b14⟩
    have t14 := t13.trans (b14.mono t13.size)
    have k414 := heap_below k413 b14
    have k114 := heap_below k113 b14
    have d414 := d413.below b14
    have r14 := Row.of_own i14
    have r134 := r13.below b14
    obtain ⟨jad, jcp, rfl⟩ := i14.slice
    clear t13 k413 k113 d413 d113 b14 i14 r13 x0 x1
    go_wp2_with fail
    refine (HSI.out _ _ _ r134 r14).mono ?_
    rintro e w15 ⟨rfl, b15⟩
    have t15 := t14.trans (b15.mono t14.size)
    have k415 := heap_below k414 b15
    have k115 := heap_below k114 b15
    have d415 := d414.below b15
    have d115 := hD.out.below t15
    have x0 := cell2_0 k415
    have x1 := cell2_1 k415
    have y0 := cell2_0 k115
    have y1 := cell2_1 k115
    clear t14 k414 k114 d414 b15 r14 r134
    go_wp2_with fail
    refine (HSD.out _ _ _ d415 d115).mono ?_
    rintro e w16 ⟨rfl, b16⟩
    go_wp2_with fail
    refine (HA.out _).mono ?_
    rintro e w17 ⟨rfl, b17⟩
    go_wp2
    go_ret
    exact ⟨rfl, t15.trans ((andThen b16 b17).mono t15.size)⟩
end Go.Proofs.Ytiemlaofhmncdaa
