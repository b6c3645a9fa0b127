/- The walk of SnapKnown, chapter 13 (snap). -/
import Derived.Test.YtmfbkelhegdmpaaGreatDoorSnLaws
import Derived.Test.YtmfbkelhegdmpaaGreatDoorSnLawE
import Derived.Test.YtmfbkelhegdmpaaGreatDoorSnapN
import Derived.Test.YtmfbkelhegdmpaaGreatDoorSnapIU
import Derived.Test.YtmfbkelhegdmpaaGreatDoorSnLawX
import Derived.Test.YtmfbkelhegdmpaaGreatDoorDiskMU
namespace Go.Proofs.YtmfbkelhegdmpaaGreatDoor
open Go.RowKit Disk11 Journal12 Sum2

theorem roomK : roomS D0E (1, 0) = (245, 0) := by
  have hc := check_laid ex0.2.2
  have hz : sizeJ (withS (putN 1) ([] : List (List UInt8))) = 0 := rfl
  rw [hz] at hc
  unfold roomS
  rw [show ((1, 0) : LogS) = (1, ((0 : Nat) : Int)) from rfl, hc, if_neg (by simp), ex0.2.2.2.1, putN1]
  rfl
theorem add_lit13 (a : Addr) (k : Nat) : a.add (k + 1) = { block := a.block, off := a.off + (k + 1) } := by simp [Addr.add]
theorem format_long : formatS 8 (List.replicate 112 0) = (none0, (0, 0), 4) := format_f2 (C := capS 8) rfl (by rw [cap8]) (by rw [cap8, List.length_replicate]; decide)
set_option maxHeartbeats 8000000 in
set_option maxRecDepth 100000 in
theorem SnapKnown_any (w : World) (ht : Tab w) :
    Calls Tryz.prog 6 #[] w fun e w' => e = .returned (.bool true) ∧ Below w.heap.size w w' := by
  obtain ⟨e31, e32, _, e33⟩ := ex3
  obtain ⟨C1, c1, x1, x2, x3, x4, x5⟩ := ex4
  obtain ⟨C2, c2, y1, y2, y3, y4⟩ := ex5
  have hl4 : C1E.2.length = 4 := by rw [e33]; rfl
  have hl0 : D0E.1.length = 8 := ex0.2.2.2.1
  have hl1 : D0E.2.length = 0 := by rw [ex0.2.1]; rfl
  obtain ⟨Fm, hFm⟩ : ∃ F, F = formS 2 [99, 100] := ⟨_, rfl⟩
  have hFl : Fm.length = 18 := by rw [hFm, formS_length]; rfl
  obtain ⟨Zr, hZr⟩ : ∃ Z : List UInt8, Z = List.replicate 256 0 := ⟨_, rfl⟩
  have hZl : Zr.length = 256 := by rw [hZr, List.length_replicate]
  rw [← hFm, ← hZr] at e33
  have HS := Lib.hid (fun W t => shown_any13 W t)
  have HA := Lib.hid (fun W t => awake_any13 W t)
  have HC := Lib.hid (fun v W h t => (Compact_any13 D1E v 1 12 [99, 100] W (by decide) (by decide) h t).mono (fun _ _ => snap_open e31))
  rw [e32, hl4] at HC
  have HX1 := Lib.hid (fun v W (h : DiskIs W C1E v) => (crash_open x1 h : Calls Tryz.prog 28 #[v, .int .i64 3, .int .i64 0] W fun e w' => ∃ ab cb ac cc, e = .returned (.tuple #[.agg #[.slice ab C1.length cb, .slice ac 0 cc], .int .i64 0]) ∧ DiskIs w' (C1, []) (.agg #[.slice ab C1.length cb, .slice ac 0 cc]) ∧ Below W.heap.size W w'))
  have HX2 := Lib.hid (fun v W (h : DiskIs W C1E v) => (crash_open y1 h : Calls Tryz.prog 28 #[v, .int .i64 1, .int .i64 18] W fun e w' => ∃ ab cb ac cc, e = .returned (.tuple #[.agg #[.slice ab C2.length cb, .slice ac 0 cc], .int .i64 0]) ∧ DiskIs w' (C2, []) (.agg #[.slice ab C2.length cb, .slice ac 0 cc]) ∧ Below W.heap.size W w'))
  rw [x2] at HX1
  rw [y2] at HX2
  have HR := Lib.hid (fun v W h t => (Recover_any13 (C1, []) v W h t).mono (fun _ _ => rec_open x3))
  rw [x4, x5] at HR
  have HG := Lib.hid (fun v vl W h hr t => gives_any (C2, []) (C2, []) c2 v vl [97, 98] 1 12 [[120]] W h hr t y4 y3 (by dsimp only; omega) (by decide))
  have HF := Lib.hid (fun W t => (Format_any13 8 (by unfold I64; omega) [97, 98] W (by decide) t).mono (fun _ _ => snap_open ex0.1))
  rw [hl0, hl1] at HF
  have HRo := Lib.hid (fun v W h => Room_any13 D0E v 1 0 W (by decide) h)
  rw [roomK] at HRo
  have HF2 := Lib.hid (fun W t => (Format_any13 8 (by unfold I64; omega) (List.replicate 112 0) W (by rw [List.length_replicate]; decide) t).mono (fun _ _ => snap_open format_long))
  obtain ⟨Z1, hZ1⟩ : ∃ Z : List UInt8, Z = List.replicate 112 0 := ⟨_, rfl⟩
  rw [← hZ1, show none0.1.length = 0 from rfl, show none0.2.length = 0 from rfl] at HF2
  have HZ1 := Lib.hid hZ1
  have HC7 := Lib.hid (fun W => Capacity_any 7 (by unfold I64; omega) W)
  have HC11 := Lib.hid (fun W => Capacity_any 11 (by unfold I64; omega) W)
  have HC40 := Lib.hid (fun W => Capacity_any 4096 (by unfold I64; omega) W)
  rw [capK.1] at HC7
  rw [capK.2.1] at HC11
  rw [capK.2.2] at HC40
  have hn1 := neq_log_same 2 0
  have hn2 := eq_log_same 2 0
  have hw0 := fun W => neq_wr 0 0 [0] [0] W
  have hw2 := fun W => neq_wr 0 0 [183] [183] W
  have hT := Lib.hid ht
  have hZs := hZl
  have hFs := hFl
  have HW := Lib.hid e33
  have t0 := Below.refl w.heap.size w
  clear ht e31 e32 e33 x1 x2 x3 x4 x5 y1 y2 y3 y4 hl4 hl0 hl1 hFm hZr hFl hZl hZ1
  go_enter Tryz.func6, Tryz.ntmps6
  go_wp2_with fail
  refine (HS.out _ (hT.out.below t0)).mono ?_
  rintro e w1 ⟨ab1, cb1, ac1, cc1, rfl, d_r, b1⟩
  obtain ⟨D_1, G_1, _, a1⟩ := alloc2 w1 (.cells #[.slice ab1 8 cb1, .slice ac1 0 cc1] 29) (.cells #[.int .u64 1, .int .i64 12] 32)
  have c1 := b1.trans (a1.mono b1.size)
  have t1 := t0.trans (c1.mono t0.size)
  have d_1 := d_r.below a1
  clear t0 d_r a1 b1 c1
  go_upto_region 2 with (fail)
  generalize (World.alloc (World.alloc w1 (.cells #[.slice ab1 8 cb1, .slice ac1 0 cc1] 29)) (.cells #[.int .u64 1, .int .i64 12] 32)) = W1 at *
  have Dx0 := cell2_0 D_1
  have Dx1 := cell2_1 D_1
  have Gx0 := cell2_0 G_1
  have Gx1 := cell2_1 G_1
  go_wp2_with fail
  refine (HC.out _ _ d_1 (hT.out.below t1)).mono ?_
  rintro e w2 ⟨ab2, cb2, ac2, cc2, rfl, e_r, b2⟩
  obtain ⟨E_2, H_2, _, a2⟩ := alloc2 w2 (.cells #[.slice ab2 8 cb2, .slice ac2 4 cc2] 29) (.cells #[.int .u64 2, .int .i64 0] 32)
  have c2 := b2.trans (a2.mono b2.size)
  have D_2 := heap_below D_1 c2
  have G_2 := heap_below G_1 c2
  have d_2 := d_1.below c2
  have t2 := t1.trans (c2.mono t1.size)
  have e_2 := e_r.below a2
  clear Dx0 Dx1 Gx0 Gx1 D_1 G_1 d_1 t1 e_r a2 b2 c2
  go_upto_region 3 with (fail)
  generalize (World.alloc (World.alloc w2 (.cells #[.slice ab2 8 cb2, .slice ac2 4 cc2] 29)) (.cells #[.int .u64 2, .int .i64 0] 32)) = W2 at *
  go_wp2_with fail
  refine (HA.out _ (hT.out.below t2)).mono ?_
  rintro e w3 ⟨rfl, b3⟩
  have D_3 := heap_below D_2 b3
  have G_3 := heap_below G_2 b3
  have d_3 := d_2.below b3
  have E_3 := heap_below E_2 b3
  have H_3 := heap_below H_2 b3
  have e_3 := e_2.below b3
  have t3 := t2.trans (b3.mono t2.size)
  clear D_2 G_2 d_2 E_2 H_2 e_2 t2 b3
  have ek := e_3
  obtain ⟨_, _, he, _, hrow⟩ := ek
  cases he
  rw [HW.out] at hrow
  obtain ⟨wa, rfl, wc⟩ := row_cells hrow (by rw [wrVals_length]; show 0 < 4 * 2; decide)
  have q0 : w3.cell? wa = some (.int .i64 0) := by have := wc 0 _ rfl; rw [Addr.add_zero'] at this; exact this
  have q1 : w3.cell? { block := wa.block, off := wa.off + 1 } = some (.string ⟨#[0]⟩) := by have := wc 1 _ rfl; rw [add_lit13 wa 0] at this; exact this
  have q2 : w3.cell? { block := wa.block, off := wa.off + 2 } = some (.int .i64 1) := by have := wc 2 _ rfl; rw [add_lit13 wa 1] at this; exact this
  have q3 : w3.cell? { block := wa.block, off := wa.off + 3 } = some (.string ⟨Fm.toArray⟩) := by have := wc 3 _ rfl; rw [add_lit13 wa 2] at this; exact this
  have q4 : w3.cell? { block := wa.block, off := wa.off + 4 } = some (.int .i64 0) := by have := wc 4 _ rfl; rw [add_lit13 wa 3] at this; exact this
  have q5 : w3.cell? { block := wa.block, off := wa.off + 5 } = some (.string ⟨#[183]⟩) := by have := wc 5 _ rfl; rw [add_lit13 wa 4] at this; exact this
  have q6 : w3.cell? { block := wa.block, off := wa.off + 6 } = some (.int .i64 256) := by have := wc 6 _ rfl; rw [add_lit13 wa 5] at this; exact this
  have q7 : w3.cell? { block := wa.block, off := wa.off + 7 } = some (.string ⟨Zr.toArray⟩) := by have := wc 7 _ rfl; rw [add_lit13 wa 6] at this; exact this
  clear wc
  have Ex0 := cell2_0 E_3
  have Ex1 := cell2_1 E_3
  have Hx0 := cell2_0 H_3
  have Hx1 := cell2_1 H_3
  go_upto_region 5 with (fail)
  clear q0 q1 q2 q3 q4 q5 q6 q7
  go_wp2_with fail
  refine (HX1.out _ _ e_3).mono ?_
  rintro e w4 ⟨ab4, cb4, ac4, cc4, rfl, i_r, b4⟩
  have a4 := Go.Joins.below_alloc1 w4 (.cells #[.slice ab4 8 cb4, .slice ac4 0 cc4] 29)
  have I_4 := World.alloc_heap_new w4 (.cells #[.slice ab4 8 cb4, .slice ac4 0 cc4] 29)
  have c4 := b4.trans (a4.mono b4.size)
  have D_4 := heap_below D_3 c4
  have G_4 := heap_below G_3 c4
  have d_4 := d_3.below c4
  have E_4 := heap_below E_3 c4
  have H_4 := heap_below H_3 c4
  have e_4 := e_3.below c4
  have t4 := t3.trans (c4.mono t3.size)
  have i_4 := i_r.below a4
  clear Ex0 Ex1 Hx0 Hx1 D_3 G_3 d_3 E_3 H_3 e_3 t3 i_r a4 b4 c4
  go_upto_region 6 with (fail)
  generalize (World.alloc w4 (.cells #[.slice ab4 8 cb4, .slice ac4 0 cc4] 29)) = W4 at *
  have Ex0 := cell2_0 E_4
  have Ex1 := cell2_1 E_4
  go_wp2_with fail
  refine (HX2.out _ _ e_4).mono ?_
  rintro e w5 ⟨ab5, cb5, ac5, cc5, rfl, j_r, b5⟩
  have a5 := Go.Joins.below_alloc1 w5 (.cells #[.slice ab5 8 cb5, .slice ac5 0 cc5] 29)
  have J_5 := World.alloc_heap_new w5 (.cells #[.slice ab5 8 cb5, .slice ac5 0 cc5] 29)
  have c5 := b5.trans (a5.mono b5.size)
  have D_5 := heap_below D_4 c5
  have G_5 := heap_below G_4 c5
  have d_5 := d_4.below c5
  have E_5 := heap_below E_4 c5
  have H_5 := heap_below H_4 c5
  have e_5 := e_4.below c5
  have I_5 := heap_below I_4 c5
  have i_5 := i_4.below c5
  have t5 := t4.trans (c5.mono t4.size)
  have j_5 := j_r.below a5
  clear Ex0 Ex1 D_4 G_4 d_4 E_4 H_4 e_4 I_4 i_4 t4 j_r a5 b5 c5
  go_upto_region 7 with (fail)
  generalize (World.alloc w5 (.cells #[.slice ab5 8 cb5, .slice ac5 0 cc5] 29)) = W5 at *
  have Ix0 := cell2_0 I_5
  have Ix1 := cell2_1 I_5
  go_wp2_with fail
  refine (HR.out _ _ i_5 (hT.out.below t5)).mono ?_
  rintro e w6 ⟨ab6, cb6, ac6, cc6, al6, cl6, rfl, a_r, r_r, b6⟩
  obtain ⟨A_6, L_6, _, a6⟩ := alloc2 w6 (.cells #[.slice ab6 8 cb6, .slice ac6 1 cc6] 29) (.cells #[.int .u64 2, .int .i64 0] 32)
  have c6 := b6.trans (a6.mono b6.size)
  have D_6 := heap_below D_5 c6
  have G_6 := heap_below G_5 c6
  have d_6 := d_5.below c6
  have E_6 := heap_below E_5 c6
  have H_6 := heap_below H_5 c6
  have e_6 := e_5.below c6
  have I_6 := heap_below I_5 c6
  have i_6 := i_5.below c6
  have J_6 := heap_below J_5 c6
  have j_6 := j_5.below c6
  have t6 := t5.trans (c6.mono t5.size)
  have a_6 := a_r.below a6
  have r_6 := r_r.below a6
  clear Ix0 Ix1 D_5 G_5 d_5 E_5 H_5 e_5 I_5 i_5 J_5 j_5 t5 a_r r_r a6 b6 c6
  go_upto_region 8 with (fail)
  generalize (World.alloc (World.alloc w6 (.cells #[.slice ab6 8 cb6, .slice ac6 1 cc6] 29)) (.cells #[.int .u64 2, .int .i64 0] 32)) = W6 at *
  go_wp2_with fail
  refine (HF.out _ (hT.out.below t6)).mono ?_
  rintro e w7 ⟨ab7, cb7, ac7, cc7, rfl, k_r, b7⟩
  obtain ⟨K_7, M_7, _, a7⟩ := alloc2 w7 (.cells #[.slice ab7 8 cb7, .slice ac7 0 cc7] 29) (.cells #[.int .u64 1, .int .i64 0] 32)
  have c7 := b7.trans (a7.mono b7.size)
  have D_7 := heap_below D_6 c7
  have G_7 := heap_below G_6 c7
  have d_7 := d_6.below c7
  have E_7 := heap_below E_6 c7
  have H_7 := heap_below H_6 c7
  have e_7 := e_6.below c7
  have I_7 := heap_below I_6 c7
  have i_7 := i_6.below c7
  have J_7 := heap_below J_6 c7
  have j_7 := j_6.below c7
  have A_7 := heap_below A_6 c7
  have L_7 := heap_below L_6 c7
  have a_7 := a_6.below c7
  have r_7 := r_6.below c7
  have t7 := t6.trans (c7.mono t6.size)
  have k_7 := k_r.below a7
  clear D_6 G_6 d_6 E_6 H_6 e_6 I_6 i_6 J_6 j_6 A_6 L_6 a_6 r_6 t6 k_r a7 b7 c7
  go_upto_region 9 with (fail)
  generalize (World.alloc (World.alloc w7 (.cells #[.slice ab7 8 cb7, .slice ac7 0 cc7] 29)) (.cells #[.int .u64 1, .int .i64 0] 32)) = W7 at *
  have Kx0 := cell2_0 K_7
  have Kx1 := cell2_1 K_7
  have Mx0 := cell2_0 M_7
  have Mx1 := cell2_1 M_7
  go_wp2_with fail
  refine (HRo.out _ _ k_7).mono ?_
  rintro e w8 ⟨rfl, b8⟩
  have D_8 := heap_below D_7 b8
  have G_8 := heap_below G_7 b8
  have d_8 := d_7.below b8
  have E_8 := heap_below E_7 b8
  have H_8 := heap_below H_7 b8
  have e_8 := e_7.below b8
  have I_8 := heap_below I_7 b8
  have i_8 := i_7.below b8
  have J_8 := heap_below J_7 b8
  have j_8 := j_7.below b8
  have A_8 := heap_below A_7 b8
  have L_8 := heap_below L_7 b8
  have a_8 := a_7.below b8
  have r_8 := r_7.below b8
  have K_8 := heap_below K_7 b8
  have M_8 := heap_below M_7 b8
  have k_8 := k_7.below b8
  have t8 := t7.trans (b8.mono t7.size)
  clear Kx0 Kx1 Mx0 Mx1 D_7 G_7 d_7 E_7 H_7 e_7 I_7 i_7 J_7 j_7 A_7 L_7 a_7 r_7 K_7 M_7 k_7 t7 b8
  go_upto_region 10 with (fail)
  have hmk := makeU8 112 (by decide) w8
  rw [show ((112 : Nat) : Int) = 112 from rfl] at hmk
  have hcv := zero_string 112 w8
  rw [← HZ1.out] at hcv
  have z8 := Go.Joins.below_alloc1 w8 (.cells (tab 112 fun _ => .int .u8 0) 5)
  have D_9 := heap_below D_8 z8
  have G_9 := heap_below G_8 z8
  have d_9 := d_8.below z8
  have E_9 := heap_below E_8 z8
  have H_9 := heap_below H_8 z8
  have e_9 := e_8.below z8
  have I_9 := heap_below I_8 z8
  have i_9 := i_8.below z8
  have J_9 := heap_below J_8 z8
  have j_9 := j_8.below z8
  have A_9 := heap_below A_8 z8
  have L_9 := heap_below L_8 z8
  have a_9 := a_8.below z8
  have r_9 := r_8.below z8
  have K_9 := heap_below K_8 z8
  have M_9 := heap_below M_8 z8
  have k_9 := k_8.below z8
  have t9 := t8.trans (z8.mono t8.size)
  clear D_8 G_8 d_8 E_8 H_8 e_8 I_8 i_8 J_8 j_8 A_8 L_8 a_8 r_8 K_8 M_8 k_8 t8 z8
  go_wp2_with fail
  refine (HF2.out _ (hT.out.below t9)).mono ?_
  rintro e w10 ⟨ab10, cb10, ac10, cc10, rfl, f_r, b10⟩
  obtain ⟨N_10, O_10, _, a10⟩ := alloc2 w10 (.cells #[.slice ab10 0 cb10, .slice ac10 0 cc10] 29) (.cells #[.int .u64 0, .int .i64 0] 32)
  have c10 := b10.trans (a10.mono b10.size)
  have D_10 := heap_below D_9 c10
  have G_10 := heap_below G_9 c10
  have d_10 := d_9.below c10
  have E_10 := heap_below E_9 c10
  have H_10 := heap_below H_9 c10
  have e_10 := e_9.below c10
  have I_10 := heap_below I_9 c10
  have i_10 := i_9.below c10
  have J_10 := heap_below J_9 c10
  have j_10 := j_9.below c10
  have A_10 := heap_below A_9 c10
  have L_10 := heap_below L_9 c10
  have a_10 := a_9.below c10
  have r_10 := r_9.below c10
  have K_10 := heap_below K_9 c10
  have M_10 := heap_below M_9 c10
  have k_10 := k_9.below c10
  have t10 := t9.trans (c10.mono t9.size)
  have f_10 := f_r.below a10
  clear hmk hcv D_9 G_9 d_9 E_9 H_9 e_9 I_9 i_9 J_9 j_9 A_9 L_9 a_9 r_9 K_9 M_9 k_9 t9 f_r a10 b10 c10
  go_upto_region 11 with (fail)
  generalize (World.alloc (World.alloc w10 (.cells #[.slice ab10 0 cb10, .slice ac10 0 cc10] 29)) (.cells #[.int .u64 0, .int .i64 0] 32)) = W10 at *
  go_wp2_with fail
  refine (HC7.out _).mono ?_
  rintro e w11 ⟨rfl, b11⟩
  have D_11 := heap_below D_10 b11
  have G_11 := heap_below G_10 b11
  have d_11 := d_10.below b11
  have E_11 := heap_below E_10 b11
  have H_11 := heap_below H_10 b11
  have e_11 := e_10.below b11
  have I_11 := heap_below I_10 b11
  have i_11 := i_10.below b11
  have J_11 := heap_below J_10 b11
  have j_11 := j_10.below b11
  have A_11 := heap_below A_10 b11
  have L_11 := heap_below L_10 b11
  have a_11 := a_10.below b11
  have r_11 := r_10.below b11
  have K_11 := heap_below K_10 b11
  have M_11 := heap_below M_10 b11
  have k_11 := k_10.below b11
  have N_11 := heap_below N_10 b11
  have O_11 := heap_below O_10 b11
  have f_11 := f_10.below b11
  have t11 := t10.trans (b11.mono t10.size)
  clear D_10 G_10 d_10 E_10 H_10 e_10 I_10 i_10 J_10 j_10 A_10 L_10 a_10 r_10 K_10 M_10 k_10 N_10 O_10 f_10 t10 b11
  go_wp2_with fail
  refine (HC11.out _).mono ?_
  rintro e w12 ⟨rfl, b12⟩
  have D_12 := heap_below D_11 b12
  have G_12 := heap_below G_11 b12
  have d_12 := d_11.below b12
  have E_12 := heap_below E_11 b12
  have H_12 := heap_below H_11 b12
  have e_12 := e_11.below b12
  have I_12 := heap_below I_11 b12
  have i_12 := i_11.below b12
  have J_12 := heap_below J_11 b12
  have j_12 := j_11.below b12
  have A_12 := heap_below A_11 b12
  have L_12 := heap_below L_11 b12
  have a_12 := a_11.below b12
  have r_12 := r_11.below b12
  have K_12 := heap_below K_11 b12
  have M_12 := heap_below M_11 b12
  have k_12 := k_11.below b12
  have N_12 := heap_below N_11 b12
  have O_12 := heap_below O_11 b12
  have f_12 := f_11.below b12
  have t12 := t11.trans (b12.mono t11.size)
  clear D_11 G_11 d_11 E_11 H_11 e_11 I_11 i_11 J_11 j_11 A_11 L_11 a_11 r_11 K_11 M_11 k_11 N_11 O_11 f_11 t11 b12
  go_wp2_with fail
  refine (HC40.out _).mono ?_
  rintro e w13 ⟨rfl, b13⟩
  have D_13 := heap_below D_12 b13
  have G_13 := heap_below G_12 b13
  have d_13 := d_12.below b13
  have E_13 := heap_below E_12 b13
  have H_13 := heap_below H_12 b13
  have e_13 := e_12.below b13
  have I_13 := heap_below I_12 b13
  have i_13 := i_12.below b13
  have J_13 := heap_below J_12 b13
  have j_13 := j_12.below b13
  have A_13 := heap_below A_12 b13
  have L_13 := heap_below L_12 b13
  have a_13 := a_12.below b13
  have r_13 := r_12.below b13
  have K_13 := heap_below K_12 b13
  have M_13 := heap_below M_12 b13
  have k_13 := k_12.below b13
  have N_13 := heap_below N_12 b13
  have O_13 := heap_below O_12 b13
  have f_13 := f_12.below b13
  have t13 := t12.trans (b13.mono t12.size)
  clear D_12 G_12 d_12 E_12 H_12 e_12 I_12 i_12 J_12 j_12 A_12 L_12 a_12 r_12 K_12 M_12 k_12 N_12 O_12 f_12 t12 b13
  have Jx0 := cell2_0 J_13
  have Jx1 := cell2_1 J_13
  have Gx0 := cell2_0 G_13
  have Gx1 := cell2_1 G_13
  have Lx0 := cell2_0 L_13
  have Lx1 := cell2_1 L_13
  have Ax0 := cell2_0 A_13
  have Ax1 := cell2_1 A_13
  have a5 := Go.Joins.below_alloc1 w13 (.cells #[.string ⟨[120].toArray⟩] 9)
  have R5 := Lib.hid (row_lit13 w13 [120])
  have D5 := Lib.hid (j_13.below a5)
  have B5 := Lib.hid (t13.trans (a5.mono t13.size))
  clear a5
  clear D_13 G_13 d_13 E_13 H_13 e_13 I_13 i_13 J_13 j_13 A_13 L_13 a_13 r_13 K_13 M_13 k_13 N_13 O_13 f_13 t13
  go_wp2_with fail
  refine (HG.out _ _ _ D5.out R5.out (hT.out.below B5.out)).mono ?_
  rintro e w' ⟨rfl, b6⟩
  go_wp2
  go_ret
  exact ⟨rfl, B5.out.trans (b6.mono B5.out.size)⟩
end Go.Proofs.YtmfbkelhegdmpaaGreatDoor
