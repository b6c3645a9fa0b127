/- The walk of JournalKnown, chapter 12 (journal). -/
import Derived.Test.YthhghggaoljcbaaDoorJournalT
import Derived.Test.YthhghggaoljcbaaDoorJournalJ
import Derived.Test.YthhghggaoljcbaaDoorJournalP
namespace Go.Proofs.YthhghggaoljcbaaDoor
open Go.RowKit Disk11 Journal12 Sum2

theorem row_ints2 (W : World) (x y : Nat) : Row (W.alloc (.cells #[.int .i64 x, .int .i64 y] 3)) 1 (.slice (some ⟨W.heap.size, 0, none⟩) 2 2) 2 (intVals [x, y]) := by
  have k := World.alloc_heap_new W (.cells #[.int .i64 (x : Int), .int .i64 (y : Int)] 3)
  refine ⟨rfl, _, _, rfl, Nat.le_refl _, fun j v hj => ⟨_, rfl, ?_⟩⟩
  rw [addr_add]
  match j, hj with
  | 0, hj => simp [intVals] at hj; subst hj; exact cell2_0 k
  | 1, hj => simp [intVals] at hj; subst hj; exact cell2_1 k
  | j + 2, hj => simp [intVals] at hj
theorem size_long : sizeF (List.replicate 60001 0) = (0, 4) := by
  unfold sizeF
  rw [if_neg (fun e => by have := congrArg List.length e; rw [List.length_replicate] at this; cases this), if_pos (by rw [List.length_replicate]; decide)]

set_option maxHeartbeats 8000000 in
set_option maxRecDepth 100000 in
theorem JournalKnown_any (w : World) (ht : Tab w) :
    Calls Tryd.prog 5 #[] w fun e w' => e = .returned (.bool true) ∧ Below w.heap.size w w' := by
  have HS := Lib.hid (fun W t => shown_any W t)
  have HA := Lib.hid (fun W t => awake_any W t)
  have HR := Lib.hid (fun W => lregion_any W)
  have HPl := Lib.hid (fun v W h t => (Places_any shownD v 1 2 W h t).mono (fun _ _ => as_places (nl := 2) 0 shown_places rfl rfl))
  have HCl := Lib.hid (fun v W h => (Clean_any shownD v 1 2 25 W h).mono (fun _ _ => ret_two (.bool false) (.int .i64 0) (by rw [shown_clean25]) (by rw [shown_clean25]; rfl)))
  have HCu := Lib.hid (fun v W h => (JCut_any shownD v 1 2 15 W h).mono (fun _ _ => as_disk (nb := 3) (nc := 3) 0 shown_cut rfl rfl rfl))
  have HRe := Lib.hid (fun v W h t => (Replay_any cutD v 1 2 W h t).mono (fun _ _ => as_replay (nl := 1) 15 0 cut_replay15 rfl rfl rfl))
  have HSI := Lib.hid (fun v1 v2 W r1 r2 => (SameInts_any [0, 15] [0, 15] v1 v2 W r1 r2 (by decide)).mono (fun _ _ => as_readT (by decide)))
  have HST := Lib.hid (fun v1 v2 W r1 r2 => (SameTexts_any [helloB] [helloB] v1 v2 W r1 r2 (by decide)).mono (fun _ _ => as_readT (by decide)))
  have HA5 := Lib.hid (fun v W h t => (JAppend_any shownD v 1 2 5 xB W h t (by decide)).mono (fun _ _ => as_app (nb := 0) (nc := 0) 12 shown_app5 rfl rfl rfl))
  have HA118 := Lib.hid (fun v W h t => (JAppend_any shownD v 1 2 118 xB W h t (by decide)).mono (fun _ _ => as_app (nb := 0) (nc := 0) 5 shown_app118 rfl rfl rfl))
  have HA117 := Lib.hid (fun v W h t => (JAppend_any shownD v 1 2 117 xB W h t (by decide)).mono (fun _ _ => as_app (nb := 3) (nc := 3) 0 shown_app117 rfl rfl rfl))
  have HA26 := Lib.hid (fun v W h t => (JAppend_any shownD v 1 2 26 [] W h t (by decide)).mono (fun _ _ => as_app (nb := 0) (nc := 0) 3 shown_app26 rfl rfl rfl))
  have HLo := Lib.hid (fun W => (long_any 60001 (by decide) W).mono (fun _ _ h => h))
  have HSz := Lib.hid (fun W => (Size_any (List.replicate 60001 0) W (by rw [List.length_replicate]; decide)).mono (fun _ _ => ret_twoW (.int .i64 0) (.int .i64 4) (by rw [size_long]; rfl) (by rw [size_long]; rfl)))
  obtain ⟨LZ, hLZ⟩ : ∃ L, L = List.replicate 60001 (0 : UInt8) := ⟨_, rfl⟩
  rw [← hLZ] at HLo HSz
  have HM1 := Lib.hid (fun W => (Room_any 1 2 118 W).mono (fun _ _ => ret_two (.int .i64 0) (.int .i64 0) (by rw [room118]) (by rw [room118]; rfl)))
  have HM2 := Lib.hid (fun W => (Room_any 1 2 119 W).mono (fun _ _ => ret_two (.int .i64 0) (.int .i64 0) (by rw [room119]) (by rw [room119]; rfl)))
  have HK2 := Lib.hid (fun v W h => (JCheck_any shownD v 2 2 W h).mono (fun _ _ => ret_one (.int .i64 2) (by rw [shown_chk22]; rfl)))
  have HK0 := Lib.hid (fun v W h => (JCheck_any shownD v 2 0 W h).mono (fun _ _ => ret_one (.int .i64 2) (by rw [shown_chk20]; rfl)))
  have hT := Lib.hid ht
  clear hLZ ht
  go_enter Tryd.func5, Tryd.ntmps5
  go_wp2_with fail
  refine (HS.out _ hT.out).mono ?_
  rintro e w1 ⟨ab, cb, ac, cc, rfl, dr_1, b1⟩
  have a1 := Go.Joins.below_alloc1 w1 (.cells #[.slice ab 3 cb, .slice ac 2 cc] 25)
  have D_1 := World.alloc_heap_new w1 (.cells #[.slice ab 3 cb, .slice ac 2 cc] 25)
  have c1 := b1.trans (a1.mono b1.size)
  have t1 := c1
  have d_1 := dr_1.below a1
  clear dr_1 a1 b1 c1
  go_wp2_with fail
  refine (HA.out _ (hT.out.below t1)).mono ?_
  rintro e w2 ⟨rfl, b2⟩
  have D_2 := heap_below D_1 b2
  have d_2 := d_1.below b2
  have t2 := t1.trans (b2.mono t1.size)
  clear D_1 d_1 t1 b2
  have x0_2 := cell2_0 D_2
  have x1_2 := cell2_1 D_2
  have HD2 := Lib.hid d_2
  have HT2 := Lib.hid t2
  go_wp2_with fail
  go_region_held3 (fun V => V.cell? ⟨w1.heap.size, 0, none⟩ = some (.slice ab 3 cb) ∧ V.cell? ⟨w1.heap.size, 1, none⟩ = some (.slice ac 2 cc))
    (first | exact ⟨x0_2, x1_2⟩ | exact ⟨o0_2, o1_2⟩ | exact ⟨p0_2, p1_2⟩ | go_keep)
    (first
    | (go_at_call 33; refine (HR.out _).mono ?_; rintro e u2 ⟨rfl, y2⟩
       have o0_2 := cell_below y2 (show (World.drew w2).cell? _ = _ from x0_2)
       have o1_2 := cell_below y2 (show (World.drew w2).cell? _ = _ from x1_2)
       have V2 := Lib.hid ((Below.refl _ w2).drew.trans y2))
    | (go_at_call 23; refine (HPl.out _ _ (HD2.out.below V2.out) (hT.out.below (HT2.out.trans (V2.out.mono HT2.out.size)))).mono ?_; rintro e w3 ⟨aP, cP, rfl, p_3, b3⟩
       have p0_2 := cell_below b3 o0_2
       have p1_2 := cell_below b3 o1_2
       have Z2 := Lib.hid (V2.out.trans (b3.mono V2.out.size))))
  have z2 := Z2.out
  have D_3 := heap_below D_2 z2
  have d_3 := d_2.below z2
  have t3 := t2.trans (z2.mono t2.size)
  clear D_2 d_2 t2 x0_2 x1_2 o0_2 o1_2 p0_2 p1_2 HD2 HT2 V2 Z2 z2 y2 b3
  have x0_3 := cell2_0 D_3
  have x1_3 := cell2_1 D_3
  have HD3 := Lib.hid d_3
  have HT3 := Lib.hid t3
  go_wp2_with fail
  go_region_held3 (fun V => V.cell? ⟨w1.heap.size, 0, none⟩ = some (.slice ab 3 cb) ∧ V.cell? ⟨w1.heap.size, 1, none⟩ = some (.slice ac 2 cc))
    (first | exact ⟨x0_3, x1_3⟩ | exact ⟨o0_3, o1_3⟩ | exact ⟨p0_3, p1_3⟩ | go_keep)
    (first
    | (go_at_call 33; refine (HR.out _).mono ?_; rintro e u3 ⟨rfl, y3⟩
       have o0_3 := cell_below y3 (show (World.drew w3).cell? _ = _ from x0_3)
       have o1_3 := cell_below y3 (show (World.drew w3).cell? _ = _ from x1_3)
       have V3 := Lib.hid ((Below.refl _ w3).drew.trans y3))
    | (go_at_call 26; refine (HCl.out _ _ (HD3.out.below V3.out)).mono ?_; rintro e w4 ⟨rfl, b4⟩
       have p0_3 := cell_below b4 o0_3
       have p1_3 := cell_below b4 o1_3
       have Z3 := Lib.hid (V3.out.trans (b4.mono V3.out.size))))
  have z3 := Z3.out
  have D_4 := heap_below D_3 z3
  have d_4 := d_3.below z3
  have p_4 := p_3.below z3
  have t4 := t3.trans (z3.mono t3.size)
  clear D_3 d_3 p_3 t3 x0_3 x1_3 o0_3 o1_3 p0_3 p1_3 HD3 HT3 V3 Z3 z3 y3 b4
  have lt4 : w1.heap.size < w4.heap.size := (Array.getElem?_eq_some_iff.1 D_4).1
  go_upto_region 6 with (fail)
  go_cut [7, 8] from 53 to 58 (fun u v W => ∃ (ptr cb3 cc3 : Nat) (ab3 ac3 : Option Addr), u = .pointer (some ⟨ptr, 0, none⟩) ∧ v = .int .i64 0 ∧ W.heap[ptr]? = some (.cells #[.slice ab3 3 cb3, .slice ac3 3 cc3] 25 (0, 0)) ∧ DiskIs W cutD (.agg #[.slice ab3 3 cb3, .slice ac3 3 cc3]) ∧ Below w4.heap.size w4 W)
  case first =>
    have x0 := cell2_0 D_4
    have x1 := cell2_1 D_4
    have al := Go.Joins.below_alloc1 w4 (.cells #[.slice none 0 0, .slice none 0 0] 25)
    have z0 := cell_below al x0
    have z1 := cell_below al x1
    have hal := Lib.hid al
    have hd := Lib.hid d_4
    have ht := Lib.hid t4
    have hnew := Lib.hid (World.alloc_heap_new w4 (.cells #[.slice none 0 0, .slice none 0 0] 25))
    clear al
    go_region_held3 (fun V => V.cell? ⟨w1.heap.size, 0, none⟩ = some (.slice ab 3 cb) ∧ V.cell? ⟨w1.heap.size, 1, none⟩ = some (.slice ac 2 cc))
      (first | exact ⟨x0, x1⟩ | exact ⟨z0, z1⟩ | exact ⟨o0, o1⟩ | exact ⟨p0, p1⟩ | exact ⟨q0, q1⟩ | exact ⟨cell_below (Go.Joins.below_alloc1 _ _) o0, cell_below (Go.Joins.below_alloc1 _ _) o1⟩ | exact ⟨cell_below (Go.Joins.below_alloc1 _ _) p0, cell_below (Go.Joins.below_alloc1 _ _) p1⟩ | go_keep)
      (first
      | (go_at_call 33; refine (HR.out _).mono ?_; rintro e u6 ⟨rfl, y6⟩
         first
         | (have o0 := cell_below y6 (show (World.drew w4).cell? _ = _ from x0)
            have o1 := cell_below y6 (show (World.drew w4).cell? _ = _ from x1)
            have V6 := Lib.hid ((Below.refl _ w4).drew.trans y6))
         | (have o0 := cell_below y6 (show (World.alloc w4 (.cells #[.slice none 0 0, .slice none 0 0] 25)).drew.cell? _ = _ from z0)
            have o1 := cell_below y6 (show (World.alloc w4 (.cells #[.slice none 0 0, .slice none 0 0] 25)).drew.cell? _ = _ from z1)
            have V6 := Lib.hid (hal.out.trans ((show Below (World.alloc w4 (.cells #[.slice none 0 0, .slice none 0 0] 25)).heap.size (World.alloc w4 (.cells #[.slice none 0 0, .slice none 0 0] 25)) u6 from (Below.refl _ _).drew.trans y6).mono hal.out.size))
            have n6 := heap_below (show (World.alloc w4 (.cells #[.slice none 0 0, .slice none 0 0] 25)).drew.heap[w4.heap.size]? = _ from hnew.out) y6))
      | (go_at_call 28; refine (HCu.out _ _ (by first | exact hd.out.below V6.out | exact (hd.out.below V6.out).below (Go.Joins.below_alloc1 _ _))).mono ?_; rintro e u7 ⟨ab3, cb3, ac3, cc3, rfl, xd, y7⟩
         have hl6 := V6.out.size
         first
         | (have p0 := cell_below y7 o0
            have p1 := cell_below y7 o1
            have V7 := Lib.hid (V6.out.trans (y7.mono V6.out.size))
            try (have n7 := heap_below n6 y7; have m0 := cell2_0 n7; have m1 := cell2_1 n7; have m4 := frozen2 n7 0; have m5 := frozen2 n7 1; have q0 := cell_far2 (g := w4.heap.size) (j := 0) (j' := 1) (u := .slice ab3 3 cb3) (u' := .slice ac3 3 cc3) p0 (by show w1.heap.size ≠ _; omega); have q1 := cell_far2 (g := w4.heap.size) (j := 0) (j' := 1) (u := .slice ab3 3 cb3) (u' := .slice ac3 3 cc3) p1 (by show w1.heap.size ≠ _; omega)))
         | (have a6 := Go.Joins.below_alloc1 u6 (.cells #[.slice none 0 0, .slice none 0 0] 25)
            have ay7 := a6.trans (y7.mono a6.size)
            have p0 := cell_below ay7 o0
            have p1 := cell_below ay7 o1
            have V7 := Lib.hid (V6.out.trans (ay7.mono V6.out.size))
            have n7 := heap_below (World.alloc_heap_new u6 (.cells #[.slice none 0 0, .slice none 0 0] 25)) y7; have m0 := cell2_0 n7; have m1 := cell2_1 n7; have m4 := frozen2 n7 0; have m5 := frozen2 n7 1
            have q0 := cell_far2 (g := u6.heap.size) (j := 0) (j' := 1) (u := .slice ab3 3 cb3) (u' := .slice ac3 3 cc3) p0 (by show w1.heap.size ≠ _; omega)
            have q1 := cell_far2 (g := u6.heap.size) (j := 0) (j' := 1) (u := .slice ab3 3 cb3) (u' := .slice ac3 3 cc3) p1 (by show w1.heap.size ≠ _; omega))))
    all_goals
      go_wp2_with fail
      go_meet
      first
        | exact ⟨_, _, _, _, _, rfl, rfl, World.alloc_heap_new u7 _, xd.alloc _, V7.out.alloc V7.out.size _⟩
        | exact ⟨_, _, _, _, _, rfl, rfl, set_two n7, disk_apart (disk_apart xd n7) (Lib.heap_setCell_same (i := 0) n7 _), below_set (below_set V7.out (Nat.le_refl _)) (Nat.le_refl _)⟩
        | exact ⟨_, _, _, _, _, rfl, rfl, set_two n7, disk_apart (disk_apart xd n7) (Lib.heap_setCell_same (i := 0) n7 _), below_set (below_set V7.out hl6) hl6⟩
  case rest =>
    obtain ⟨w5, rfl⟩ : ∃ w5, w5 = wc := ⟨wc, rfl⟩
    obtain ⟨g5, cb5, cc5, ab5, ac5, rfl, rfl, C_5, c_5, z4⟩ := hcut
    have D_5 := heap_below D_4 z4
    have d_5 := d_4.below z4
    have p_5 := p_4.below z4
    have t5 := t4.trans (z4.mono t4.size)
    clear D_4 d_4 p_4 t4 z4 lt4
    have x0_5 := cell2_0 C_5
    have x1_5 := cell2_1 C_5
    have HD5 := Lib.hid c_5
    have HT5 := Lib.hid t5
    go_wp2_with fail
    go_region_held3 (fun V => V.cell? ⟨g5, 0, none⟩ = some (.slice ab5 3 cb5) ∧ V.cell? ⟨g5, 1, none⟩ = some (.slice ac5 3 cc5))
      (first | exact ⟨x0_5, x1_5⟩ | exact ⟨o0_5, o1_5⟩ | exact ⟨p0_5, p1_5⟩ | go_keep)
      (first
      | (go_at_call 33; refine (HR.out _).mono ?_; rintro e u5 ⟨rfl, y5⟩
         have o0_5 := cell_below y5 (show (World.drew w5).cell? _ = _ from x0_5)
         have o1_5 := cell_below y5 (show (World.drew w5).cell? _ = _ from x1_5)
         have V5 := Lib.hid ((Below.refl _ w5).drew.trans y5))
      | (go_at_call 20; refine (HRe.out _ _ (HD5.out.below V5.out) (hT.out.below (HT5.out.trans (V5.out.mono HT5.out.size)))).mono ?_; rintro e w6 ⟨aR, cR, rfl, q_6, b6⟩
         have p0_5 := cell_below b6 o0_5
         have p1_5 := cell_below b6 o1_5
         have Z5 := Lib.hid (V5.out.trans (b6.mono V5.out.size))))
    have z5 := Z5.out
    have D_6 := heap_below D_5 z5
    have d_6 := d_5.below z5
    have p_6 := p_5.below z5
    have C_6 := heap_below C_5 z5
    have c_6 := c_5.below z5
    have t6 := t5.trans (z5.mono t5.size)
    clear D_5 d_5 p_5 C_5 c_5 t5 x0_5 x1_5 o0_5 o1_5 p0_5 p1_5 HD5 HT5 V5 Z5 z5 y5 b6
    have a6 := Go.Joins.below_alloc1 w6 (.cells #[.int .i64 0, .int .i64 15] 3)
    go_wp2_with fail
    refine (HSI.out _ _ _ (p_6.below a6) (row_ints2 w6 0 15)).mono ?_
    rintro e w7 ⟨rfl, bb7⟩
    have b7 := a6.trans (bb7.mono a6.size)
    have D_7 := heap_below D_6 b7
    have d_7 := d_6.below b7
    have p_7 := p_6.below b7
    have C_7 := heap_below C_6 b7
    have c_7 := c_6.below b7
    have q_7 := q_6.below b7
    have t7 := t6.trans (b7.mono t6.size)
    clear D_6 d_6 p_6 C_6 c_6 q_6 t6 b7
    have a7 := Go.Joins.below_alloc1 w7 (.cells #[.string ⟨helloB.toArray⟩] 9)
    go_wp2_with fail
    refine (HST.out _ _ _ (q_7.below a7) (row_str1 w7 helloB)).mono ?_
    rintro e w8 ⟨rfl, bb8⟩
    have b8 := a7.trans (bb8.mono a7.size)
    have D_8 := heap_below D_7 b8
    have d_8 := d_7.below b8
    have p_8 := p_7.below b8
    have C_8 := heap_below C_7 b8
    have c_8 := c_7.below b8
    have q_8 := q_7.below b8
    have t8 := t7.trans (b8.mono t7.size)
    clear D_7 d_7 p_7 C_7 c_7 q_7 t7 b8
    clear p_8 q_8 C_8 c_8
    have lt8 : w1.heap.size < w8.heap.size := (Array.getElem?_eq_some_iff.1 D_8).1
    go_upto_region 10 with (fail)
    go_cut [12, 13, 14] from 99 to 105 (fun _ _ c W => c = .int .i64 12 ∧ Below w8.heap.size w8 W)
    case first =>
      have x0 := cell2_0 D_8
      have x1 := cell2_1 D_8
      have al := Go.Joins.below_alloc1 w8 (.cells #[.slice none 0 0, .slice none 0 0] 25)
      have z0 := cell_below al x0
      have z1 := cell_below al x1
      have hal := Lib.hid al
      have hd := Lib.hid d_8
      have ht := Lib.hid t8
      have hnew := Lib.hid (World.alloc_heap_new w8 (.cells #[.slice none 0 0, .slice none 0 0] 25))
      clear al
      go_region_held3 (fun V => V.cell? ⟨w1.heap.size, 0, none⟩ = some (.slice ab 3 cb) ∧ V.cell? ⟨w1.heap.size, 1, none⟩ = some (.slice ac 2 cc))
        (first | exact ⟨x0, x1⟩ | exact ⟨z0, z1⟩ | exact ⟨o0, o1⟩ | exact ⟨p0, p1⟩ | exact ⟨q0, q1⟩ | exact ⟨cell_below (Go.Joins.below_alloc1 _ _) o0, cell_below (Go.Joins.below_alloc1 _ _) o1⟩ | exact ⟨cell_below (Go.Joins.below_alloc1 _ _) p0, cell_below (Go.Joins.below_alloc1 _ _) p1⟩ | go_keep)
        (first
        | (go_at_call 33; refine (HR.out _).mono ?_; rintro e u6 ⟨rfl, y6⟩
           first
           | (have o0 := cell_below y6 (show (World.drew w8).cell? _ = _ from x0)
              have o1 := cell_below y6 (show (World.drew w8).cell? _ = _ from x1)
              have V6 := Lib.hid ((Below.refl _ w8).drew.trans y6))
           | (have o0 := cell_below y6 (show (World.alloc w8 (.cells #[.slice none 0 0, .slice none 0 0] 25)).drew.cell? _ = _ from z0)
              have o1 := cell_below y6 (show (World.alloc w8 (.cells #[.slice none 0 0, .slice none 0 0] 25)).drew.cell? _ = _ from z1)
              have V6 := Lib.hid (hal.out.trans ((show Below (World.alloc w8 (.cells #[.slice none 0 0, .slice none 0 0] 25)).heap.size (World.alloc w8 (.cells #[.slice none 0 0, .slice none 0 0] 25)) u6 from (Below.refl _ _).drew.trans y6).mono hal.out.size))
              have n6 := heap_below (show (World.alloc w8 (.cells #[.slice none 0 0, .slice none 0 0] 25)).drew.heap[w8.heap.size]? = _ from hnew.out) y6))
        | (go_at_call 13; refine (HA5.out _ _ (by first | exact hd.out.below V6.out | exact (hd.out.below V6.out).below (Go.Joins.below_alloc1 _ _)) (by first | exact hT.out.below (ht.out.trans (V6.out.mono ht.out.size)) | exact hT.out.below ((ht.out.trans (V6.out.mono ht.out.size)).alloc (ht.out.trans (V6.out.mono ht.out.size)).size _))).mono ?_; rintro e u7 ⟨ab3, cb3, ac3, cc3, rfl, xd, y7⟩
           have hl6 := V6.out.size
           first
           | (have p0 := cell_below y7 o0
              have p1 := cell_below y7 o1
              have V7 := Lib.hid (V6.out.trans (y7.mono V6.out.size))
              try (have n7 := heap_below n6 y7; have m0 := cell2_0 n7; have m1 := cell2_1 n7; have m4 := frozen2 n7 0; have m5 := frozen2 n7 1; have q0 := cell_far2 (g := w8.heap.size) (j := 0) (j' := 1) (u := .slice ab3 0 cb3) (u' := .slice ac3 0 cc3) p0 (by show w1.heap.size ≠ _; omega); have q1 := cell_far2 (g := w8.heap.size) (j := 0) (j' := 1) (u := .slice ab3 0 cb3) (u' := .slice ac3 0 cc3) p1 (by show w1.heap.size ≠ _; omega)))
           | (have a6 := Go.Joins.below_alloc1 u6 (.cells #[.slice none 0 0, .slice none 0 0] 25)
              have ay7 := a6.trans (y7.mono a6.size)
              have p0 := cell_below ay7 o0
              have p1 := cell_below ay7 o1
              have V7 := Lib.hid (V6.out.trans (ay7.mono V6.out.size))
              have n7 := heap_below (World.alloc_heap_new u6 (.cells #[.slice none 0 0, .slice none 0 0] 25)) y7; have m0 := cell2_0 n7; have m1 := cell2_1 n7; have m4 := frozen2 n7 0; have m5 := frozen2 n7 1
              have q0 := cell_far2 (g := u6.heap.size) (j := 0) (j' := 1) (u := .slice ab3 0 cb3) (u' := .slice ac3 0 cc3) p0 (by show w1.heap.size ≠ _; omega)
              have q1 := cell_far2 (g := u6.heap.size) (j := 0) (j' := 1) (u := .slice ab3 0 cb3) (u' := .slice ac3 0 cc3) p1 (by show w1.heap.size ≠ _; omega))))
      all_goals
        go_wp2_with fail
        go_meet
        first
          | exact ⟨rfl, V7.out.alloc V7.out.size _⟩
          | exact ⟨rfl, below_set (below_set V7.out (Nat.le_refl _)) (Nat.le_refl _)⟩
          | exact ⟨rfl, below_set (below_set V7.out hl6) hl6⟩
    case rest =>
      obtain ⟨w9, rfl⟩ : ∃ w9, w9 = wc := ⟨wc, rfl⟩
      obtain ⟨rfl, z8⟩ := hcut
      have D_9 := heap_below D_8 z8
      have d_9 := d_8.below z8
      have t9 := t8.trans (z8.mono t8.size)
      clear D_8 d_8 t8 z8 lt8
      have lt9 : w1.heap.size < w9.heap.size := (Array.getElem?_eq_some_iff.1 D_9).1
      go_upto_region 11 with (fail)
      go_cut [15, 16, 17] from 106 to 112 (fun _ _ c W => c = .int .i64 5 ∧ Below w9.heap.size w9 W)
      case first =>
        have x0 := cell2_0 D_9
        have x1 := cell2_1 D_9
        have al := Go.Joins.below_alloc1 w9 (.cells #[.slice none 0 0, .slice none 0 0] 25)
        have z0 := cell_below al x0
        have z1 := cell_below al x1
        have hal := Lib.hid al
        have hd := Lib.hid d_9
        have ht := Lib.hid t9
        have hnew := Lib.hid (World.alloc_heap_new w9 (.cells #[.slice none 0 0, .slice none 0 0] 25))
        clear al
        go_region_held3 (fun V => V.cell? ⟨w1.heap.size, 0, none⟩ = some (.slice ab 3 cb) ∧ V.cell? ⟨w1.heap.size, 1, none⟩ = some (.slice ac 2 cc))
          (first | exact ⟨x0, x1⟩ | exact ⟨z0, z1⟩ | exact ⟨o0, o1⟩ | exact ⟨p0, p1⟩ | exact ⟨q0, q1⟩ | exact ⟨cell_below (Go.Joins.below_alloc1 _ _) o0, cell_below (Go.Joins.below_alloc1 _ _) o1⟩ | exact ⟨cell_below (Go.Joins.below_alloc1 _ _) p0, cell_below (Go.Joins.below_alloc1 _ _) p1⟩ | go_keep)
          (first
          | (go_at_call 33; refine (HR.out _).mono ?_; rintro e u6 ⟨rfl, y6⟩
             first
             | (have o0 := cell_below y6 (show (World.drew w9).cell? _ = _ from x0)
                have o1 := cell_below y6 (show (World.drew w9).cell? _ = _ from x1)
                have V6 := Lib.hid ((Below.refl _ w9).drew.trans y6))
             | (have o0 := cell_below y6 (show (World.alloc w9 (.cells #[.slice none 0 0, .slice none 0 0] 25)).drew.cell? _ = _ from z0)
                have o1 := cell_below y6 (show (World.alloc w9 (.cells #[.slice none 0 0, .slice none 0 0] 25)).drew.cell? _ = _ from z1)
                have V6 := Lib.hid (hal.out.trans ((show Below (World.alloc w9 (.cells #[.slice none 0 0, .slice none 0 0] 25)).heap.size (World.alloc w9 (.cells #[.slice none 0 0, .slice none 0 0] 25)) u6 from (Below.refl _ _).drew.trans y6).mono hal.out.size))
                have n6 := heap_below (show (World.alloc w9 (.cells #[.slice none 0 0, .slice none 0 0] 25)).drew.heap[w9.heap.size]? = _ from hnew.out) y6))
          | (go_at_call 13; refine (HA118.out _ _ (by first | exact hd.out.below V6.out | exact (hd.out.below V6.out).below (Go.Joins.below_alloc1 _ _)) (by first | exact hT.out.below (ht.out.trans (V6.out.mono ht.out.size)) | exact hT.out.below ((ht.out.trans (V6.out.mono ht.out.size)).alloc (ht.out.trans (V6.out.mono ht.out.size)).size _))).mono ?_; rintro e u7 ⟨ab3, cb3, ac3, cc3, rfl, xd, y7⟩
             have hl6 := V6.out.size
             first
             | (have p0 := cell_below y7 o0
                have p1 := cell_below y7 o1
                have V7 := Lib.hid (V6.out.trans (y7.mono V6.out.size))
                try (have n7 := heap_below n6 y7; have m0 := cell2_0 n7; have m1 := cell2_1 n7; have m4 := frozen2 n7 0; have m5 := frozen2 n7 1; have q0 := cell_far2 (g := w9.heap.size) (j := 0) (j' := 1) (u := .slice ab3 0 cb3) (u' := .slice ac3 0 cc3) p0 (by show w1.heap.size ≠ _; omega); have q1 := cell_far2 (g := w9.heap.size) (j := 0) (j' := 1) (u := .slice ab3 0 cb3) (u' := .slice ac3 0 cc3) p1 (by show w1.heap.size ≠ _; omega)))
             | (have a6 := Go.Joins.below_alloc1 u6 (.cells #[.slice none 0 0, .slice none 0 0] 25)
                have ay7 := a6.trans (y7.mono a6.size)
                have p0 := cell_below ay7 o0
                have p1 := cell_below ay7 o1
                have V7 := Lib.hid (V6.out.trans (ay7.mono V6.out.size))
                have n7 := heap_below (World.alloc_heap_new u6 (.cells #[.slice none 0 0, .slice none 0 0] 25)) y7; have m0 := cell2_0 n7; have m1 := cell2_1 n7; have m4 := frozen2 n7 0; have m5 := frozen2 n7 1
                have q0 := cell_far2 (g := u6.heap.size) (j := 0) (j' := 1) (u := .slice ab3 0 cb3) (u' := .slice ac3 0 cc3) p0 (by show w1.heap.size ≠ _; omega)
                have q1 := cell_far2 (g := u6.heap.size) (j := 0) (j' := 1) (u := .slice ab3 0 cb3) (u' := .slice ac3 0 cc3) p1 (by show w1.heap.size ≠ _; omega))))
        all_goals
          go_wp2_with fail
          go_meet
          first
            | exact ⟨rfl, V7.out.alloc V7.out.size _⟩
            | exact ⟨rfl, below_set (below_set V7.out (Nat.le_refl _)) (Nat.le_refl _)⟩
            | exact ⟨rfl, below_set (below_set V7.out hl6) hl6⟩
      case rest =>
        obtain ⟨w10, rfl⟩ : ∃ w10, w10 = wc := ⟨wc, rfl⟩
        obtain ⟨rfl, z9⟩ := hcut
        have D_10 := heap_below D_9 z9
        have d_10 := d_9.below z9
        have t10 := t9.trans (z9.mono t9.size)
        clear D_9 d_9 t9 z9 lt9
        have lt10 : w1.heap.size < w10.heap.size := (Array.getElem?_eq_some_iff.1 D_10).1
        go_upto_region 12 with (fail)
        go_cut [18, 19, 20] from 113 to 119 (fun a b c W => b = .int .i64 128 ∧ c = .int .i64 0 ∧ Below w10.heap.size w10 W)
        case first =>
          have x0 := cell2_0 D_10
          have x1 := cell2_1 D_10
          have al := Go.Joins.below_alloc1 w10 (.cells #[.slice none 0 0, .slice none 0 0] 25)
          have z0 := cell_below al x0
          have z1 := cell_below al x1
          have hal := Lib.hid al
          have hd := Lib.hid d_10
          have ht := Lib.hid t10
          have hnew := Lib.hid (World.alloc_heap_new w10 (.cells #[.slice none 0 0, .slice none 0 0] 25))
          clear al
          go_region_held3 (fun V => V.cell? ⟨w1.heap.size, 0, none⟩ = some (.slice ab 3 cb) ∧ V.cell? ⟨w1.heap.size, 1, none⟩ = some (.slice ac 2 cc))
            (first | exact ⟨x0, x1⟩ | exact ⟨z0, z1⟩ | exact ⟨o0, o1⟩ | exact ⟨p0, p1⟩ | exact ⟨q0, q1⟩ | exact ⟨cell_below (Go.Joins.below_alloc1 _ _) o0, cell_below (Go.Joins.below_alloc1 _ _) o1⟩ | exact ⟨cell_below (Go.Joins.below_alloc1 _ _) p0, cell_below (Go.Joins.below_alloc1 _ _) p1⟩ | go_keep)
            (first
            | (go_at_call 33; refine (HR.out _).mono ?_; rintro e u6 ⟨rfl, y6⟩
               first
               | (have o0 := cell_below y6 (show (World.drew w10).cell? _ = _ from x0)
                  have o1 := cell_below y6 (show (World.drew w10).cell? _ = _ from x1)
                  have V6 := Lib.hid ((Below.refl _ w10).drew.trans y6))
               | (have o0 := cell_below y6 (show (World.alloc w10 (.cells #[.slice none 0 0, .slice none 0 0] 25)).drew.cell? _ = _ from z0)
                  have o1 := cell_below y6 (show (World.alloc w10 (.cells #[.slice none 0 0, .slice none 0 0] 25)).drew.cell? _ = _ from z1)
                  have V6 := Lib.hid (hal.out.trans ((show Below (World.alloc w10 (.cells #[.slice none 0 0, .slice none 0 0] 25)).heap.size (World.alloc w10 (.cells #[.slice none 0 0, .slice none 0 0] 25)) u6 from (Below.refl _ _).drew.trans y6).mono hal.out.size))
                  have n6 := heap_below (show (World.alloc w10 (.cells #[.slice none 0 0, .slice none 0 0] 25)).drew.heap[w10.heap.size]? = _ from hnew.out) y6))
            | (go_at_call 13; refine (HA117.out _ _ (by first | exact hd.out.below V6.out | exact (hd.out.below V6.out).below (Go.Joins.below_alloc1 _ _)) (by first | exact hT.out.below (ht.out.trans (V6.out.mono ht.out.size)) | exact hT.out.below ((ht.out.trans (V6.out.mono ht.out.size)).alloc (ht.out.trans (V6.out.mono ht.out.size)).size _))).mono ?_; rintro e u7 ⟨ab3, cb3, ac3, cc3, rfl, xd, y7⟩
               have hl6 := V6.out.size
               first
               | (have p0 := cell_below y7 o0
                  have p1 := cell_below y7 o1
                  have V7 := Lib.hid (V6.out.trans (y7.mono V6.out.size))
                  try (have n7 := heap_below n6 y7; have m0 := cell2_0 n7; have m1 := cell2_1 n7; have m4 := frozen2 n7 0; have m5 := frozen2 n7 1; have q0 := cell_far2 (g := w10.heap.size) (j := 0) (j' := 1) (u := .slice ab3 3 cb3) (u' := .slice ac3 3 cc3) p0 (by show w1.heap.size ≠ _; omega); have q1 := cell_far2 (g := w10.heap.size) (j := 0) (j' := 1) (u := .slice ab3 3 cb3) (u' := .slice ac3 3 cc3) p1 (by show w1.heap.size ≠ _; omega)))
               | (have a6 := Go.Joins.below_alloc1 u6 (.cells #[.slice none 0 0, .slice none 0 0] 25)
                  have ay7 := a6.trans (y7.mono a6.size)
                  have p0 := cell_below ay7 o0
                  have p1 := cell_below ay7 o1
                  have V7 := Lib.hid (V6.out.trans (ay7.mono V6.out.size))
                  have n7 := heap_below (World.alloc_heap_new u6 (.cells #[.slice none 0 0, .slice none 0 0] 25)) y7; have m0 := cell2_0 n7; have m1 := cell2_1 n7; have m4 := frozen2 n7 0; have m5 := frozen2 n7 1
                  have q0 := cell_far2 (g := u6.heap.size) (j := 0) (j' := 1) (u := .slice ab3 3 cb3) (u' := .slice ac3 3 cc3) p0 (by show w1.heap.size ≠ _; omega)
                  have q1 := cell_far2 (g := u6.heap.size) (j := 0) (j' := 1) (u := .slice ab3 3 cb3) (u' := .slice ac3 3 cc3) p1 (by show w1.heap.size ≠ _; omega))))
          all_goals
            go_wp2_with fail
            go_meet
            first
              | exact ⟨rfl, rfl, V7.out.alloc V7.out.size _⟩
              | exact ⟨rfl, rfl, below_set (below_set V7.out (Nat.le_refl _)) (Nat.le_refl _)⟩
              | exact ⟨rfl, rfl, below_set (below_set V7.out hl6) hl6⟩
        case rest =>
          obtain ⟨w11, rfl⟩ : ∃ w11, w11 = wc := ⟨wc, rfl⟩
          obtain ⟨rfl, rfl, z10⟩ := hcut
          have D_11 := heap_below D_10 z10
          have d_11 := d_10.below z10
          have t11 := t10.trans (z10.mono t10.size)
          clear D_10 d_10 t10 z10 lt10
          have lt11 : w1.heap.size < w11.heap.size := (Array.getElem?_eq_some_iff.1 D_11).1
          go_upto_region 13 with (fail)
          go_cut [21, 22, 23] from 120 to 126 (fun _ _ c W => c = .int .i64 3 ∧ Below w11.heap.size w11 W)
          case first =>
            have x0 := cell2_0 D_11
            have x1 := cell2_1 D_11
            have al := Go.Joins.below_alloc1 w11 (.cells #[.slice none 0 0, .slice none 0 0] 25)
            have z0 := cell_below al x0
            have z1 := cell_below al x1
            have hal := Lib.hid al
            have hd := Lib.hid d_11
            have ht := Lib.hid t11
            have hnew := Lib.hid (World.alloc_heap_new w11 (.cells #[.slice none 0 0, .slice none 0 0] 25))
            clear al
            go_region_held3 (fun V => V.cell? ⟨w1.heap.size, 0, none⟩ = some (.slice ab 3 cb) ∧ V.cell? ⟨w1.heap.size, 1, none⟩ = some (.slice ac 2 cc))
              (first | exact ⟨x0, x1⟩ | exact ⟨z0, z1⟩ | exact ⟨o0, o1⟩ | exact ⟨p0, p1⟩ | exact ⟨q0, q1⟩ | exact ⟨cell_below (Go.Joins.below_alloc1 _ _) o0, cell_below (Go.Joins.below_alloc1 _ _) o1⟩ | exact ⟨cell_below (Go.Joins.below_alloc1 _ _) p0, cell_below (Go.Joins.below_alloc1 _ _) p1⟩ | go_keep)
              (first
              | (go_at_call 33; refine (HR.out _).mono ?_; rintro e u6 ⟨rfl, y6⟩
                 first
                 | (have o0 := cell_below y6 (show (World.drew w11).cell? _ = _ from x0)
                    have o1 := cell_below y6 (show (World.drew w11).cell? _ = _ from x1)
                    have V6 := Lib.hid ((Below.refl _ w11).drew.trans y6))
                 | (have o0 := cell_below y6 (show (World.alloc w11 (.cells #[.slice none 0 0, .slice none 0 0] 25)).drew.cell? _ = _ from z0)
                    have o1 := cell_below y6 (show (World.alloc w11 (.cells #[.slice none 0 0, .slice none 0 0] 25)).drew.cell? _ = _ from z1)
                    have V6 := Lib.hid (hal.out.trans ((show Below (World.alloc w11 (.cells #[.slice none 0 0, .slice none 0 0] 25)).heap.size (World.alloc w11 (.cells #[.slice none 0 0, .slice none 0 0] 25)) u6 from (Below.refl _ _).drew.trans y6).mono hal.out.size))
                    have n6 := heap_below (show (World.alloc w11 (.cells #[.slice none 0 0, .slice none 0 0] 25)).drew.heap[w11.heap.size]? = _ from hnew.out) y6))
              | (go_at_call 13; refine (HA26.out _ _ (by first | exact hd.out.below V6.out | exact (hd.out.below V6.out).below (Go.Joins.below_alloc1 _ _)) (by first | exact hT.out.below (ht.out.trans (V6.out.mono ht.out.size)) | exact hT.out.below ((ht.out.trans (V6.out.mono ht.out.size)).alloc (ht.out.trans (V6.out.mono ht.out.size)).size _))).mono ?_; rintro e u7 ⟨ab3, cb3, ac3, cc3, rfl, xd, y7⟩
                 have hl6 := V6.out.size
                 first
                 | (have p0 := cell_below y7 o0
                    have p1 := cell_below y7 o1
                    have V7 := Lib.hid (V6.out.trans (y7.mono V6.out.size))
                    try (have n7 := heap_below n6 y7; have m0 := cell2_0 n7; have m1 := cell2_1 n7; have m4 := frozen2 n7 0; have m5 := frozen2 n7 1; have q0 := cell_far2 (g := w11.heap.size) (j := 0) (j' := 1) (u := .slice ab3 0 cb3) (u' := .slice ac3 0 cc3) p0 (by show w1.heap.size ≠ _; omega); have q1 := cell_far2 (g := w11.heap.size) (j := 0) (j' := 1) (u := .slice ab3 0 cb3) (u' := .slice ac3 0 cc3) p1 (by show w1.heap.size ≠ _; omega)))
                 | (have a6 := Go.Joins.below_alloc1 u6 (.cells #[.slice none 0 0, .slice none 0 0] 25)
                    have ay7 := a6.trans (y7.mono a6.size)
                    have p0 := cell_below ay7 o0
                    have p1 := cell_below ay7 o1
                    have V7 := Lib.hid (V6.out.trans (ay7.mono V6.out.size))
                    have n7 := heap_below (World.alloc_heap_new u6 (.cells #[.slice none 0 0, .slice none 0 0] 25)) y7; have m0 := cell2_0 n7; have m1 := cell2_1 n7; have m4 := frozen2 n7 0; have m5 := frozen2 n7 1
                    have q0 := cell_far2 (g := u6.heap.size) (j := 0) (j' := 1) (u := .slice ab3 0 cb3) (u' := .slice ac3 0 cc3) p0 (by show w1.heap.size ≠ _; omega)
                    have q1 := cell_far2 (g := u6.heap.size) (j := 0) (j' := 1) (u := .slice ab3 0 cb3) (u' := .slice ac3 0 cc3) p1 (by show w1.heap.size ≠ _; omega))))
            all_goals
              go_wp2_with fail
              go_meet
              first
                | exact ⟨rfl, V7.out.alloc V7.out.size _⟩
                | exact ⟨rfl, below_set (below_set V7.out (Nat.le_refl _)) (Nat.le_refl _)⟩
                | exact ⟨rfl, below_set (below_set V7.out hl6) hl6⟩
          case rest =>
            obtain ⟨w12, rfl⟩ : ∃ w12, w12 = wc := ⟨wc, rfl⟩
            obtain ⟨rfl, z11⟩ := hcut
            have D_12 := heap_below D_11 z11
            have d_12 := d_11.below z11
            have t12 := t11.trans (z11.mono t11.size)
            clear D_11 d_11 t11 z11 lt11
            go_wp2_with fail
            refine (HLo.out _).mono ?_
            rintro e w13 ⟨rfl, b13⟩
            have D_13 := heap_below D_12 b13
            have d_13 := d_12.below b13
            have t13 := t12.trans (b13.mono t12.size)
            clear D_12 d_12 t12 b13
            go_wp2_with fail
            refine (HSz.out _).mono ?_
            rintro e w13s ⟨rfl, rfl⟩
            go_wp2_with fail
            refine (HR.out _).mono ?_
            rintro e w14 ⟨rfl, b14⟩
            have D_14 := heap_below D_13 b14
            have d_14 := d_13.below b14
            have t14 := t13.trans (b14.mono t13.size)
            clear D_13 d_13 t13 b14
            go_wp2_with fail
            refine (HM1.out _).mono ?_
            rintro e w15 ⟨rfl, b15⟩
            have D_15 := heap_below D_14 b15
            have d_15 := d_14.below b15
            have t15 := t14.trans (b15.mono t14.size)
            clear D_14 d_14 t14 b15
            go_wp2_with fail
            refine (HR.out _).mono ?_
            rintro e w16 ⟨rfl, b16⟩
            have D_16 := heap_below D_15 b16
            have d_16 := d_15.below b16
            have t16 := t15.trans (b16.mono t15.size)
            clear D_15 d_15 t15 b16
            go_wp2_with fail
            refine (HM2.out _).mono ?_
            rintro e w17 ⟨rfl, b17⟩
            have D_17 := heap_below D_16 b17
            have d_17 := d_16.below b17
            have t17 := t16.trans (b17.mono t16.size)
            clear D_16 d_16 t16 b17
            have Dx0 := cell2_0 D_17
            have Dx1 := cell2_1 D_17
            go_wp2_with fail
            refine (HK2.out _ _ d_17).mono ?_
            rintro e w18 ⟨rfl, b18⟩
            have D_18 := heap_below D_17 b18
            have d_18 := d_17.below b18
            have t18 := t17.trans (b18.mono t17.size)
            clear Dx0 Dx1 D_17 d_17 t17 b18
            have Dx0 := cell2_0 D_18
            have Dx1 := cell2_1 D_18
            go_wp2_with fail
            refine (HK0.out _ _ d_18).mono ?_
            rintro e w19 ⟨rfl, b19⟩
            have D_19 := heap_below D_18 b19
            have d_19 := d_18.below b19
            have t19 := t18.trans (b19.mono t18.size)
            clear Dx0 Dx1 D_18 d_18 t18 b19
            go_wp2
            go_ret
            exact ⟨rfl, t19⟩
end Go.Proofs.YthhghggaoljcbaaDoor
