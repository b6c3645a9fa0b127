/- The walk of JournalCuts, chapter 12 (journal). -/
import Derived.Test.YthhghggaoljcbaaDoorLawBack12
import Derived.Test.YthhghggaoljcbaaDoorDiskN
import Derived.Test.YthhghggaoljcbaaDoorPart
namespace Go.Proofs.YthhghggaoljcbaaDoor
open Go.RowKit Disk11 Journal12 Sum2

/-- A device behind a crash, of which the records are known. -/
def TornTo (l : List (List UInt8)) (A : Nat) (D : Dev) : Prop := D.1.length = 12 ∧ D.2.length = 0 ∧ replayJ D (2, 8) = (l, A, 0)
theorem as_torn {B : Nat} {w w' : World} {e : Ending} {r : Dev × Nat} {C l : List (List UInt8)} {A : Nat} (hr : r = ((C, []), 0)) (hC : C.length = 12) (hp : replayJ (C, []) (2, 8) = (l, A, 0)) (h : ∃ v', e = .returned (.tuple #[v', .int .i64 r.2]) ∧ DiskIs w' r.1 v' ∧ Below B w w') :
    ∃ (XD : Dev) (ab : Option Addr) (cb : Nat) (ac : Option Addr) (cc : Nat), e = .returned (.tuple #[.agg #[.slice ab 12 cb, .slice ac 0 cc], .int .i64 0]) ∧ DiskIs w' XD (.agg #[.slice ab 12 cb, .slice ac 0 cc]) ∧ TornTo l A XD ∧ Below B w w' := by
  subst hr
  obtain ⟨v', rfl, hd, hb⟩ := h
  obtain ⟨ab, cb, ac, cc, rfl, _⟩ := hd.form
  have h0 : (((C, []), 0) : Dev × Nat).1.1.length = 12 := hC
  rw [h0] at hd ⊢
  exact ⟨_, ab, cb, ac, cc, rfl, hd, ⟨hC, rfl, hp⟩, hb⟩
theorem Mod_below (a : Int) (n : Nat) (w : World) (ha : I64 a) (h1 : 1 ≤ n) (h2 : n ≤ 4611686018427387904) :
    Calls Tryd.prog 40 #[.int .i64 a, .int .i64 (n : Int)] w fun e w' => ∃ m : Nat, m < n ∧ e = .returned (.int .i64 m) ∧ Below w.heap.size w w' :=
  (Mod_some a n w ha (by omega) (by omega)).mono fun _ _ ⟨m, h1, h2, h3⟩ => ⟨m, by omega, h2, h3 ▸ Below.refl _ _⟩

set_option maxHeartbeats 8000000 in
set_option maxRecDepth 100000 in
theorem JournalCuts_any (nums : List Int) (v : Value) (p0 t0 : Int) (w : World) (hp0 : I64 p0) (ht0 : I64 t0) (hln : nums.length ≤ maxLen) (hwf : ∀ n ∈ nums, (Lit.int .i64 n).wf = true) (N_0 : Row w 1 v nums.length (nums.map fun n => .int .i64 n)) (ht : Tab w) :
    Calls Tryd.prog 9 #[v, .int .i64 p0, .int .i64 t0] w fun e w' => e = .returned (.bool true) ∧ Below w.heap.size w w' := by
  have HK := Lib.hid (fun W t => JournalKnown_any W t)
  have HM := Lib.hid (fun W h => (records_nums nums v W hln hwf h).mono (fun _ _ => as_recs))
  have HB := Lib.hid (fun W => lblank_any W)
  have HF := Lib.hid (fun W => lfield_any W)
  have hfld : ∀ W : World, (Instr.field 27 (.agg #[.int .i64 2, .int .i64 8]) 1).run Tryd.prog W = .ok (.int .i64 8) W := fun W => by kernel_rfl
  have hT := Lib.hid ht
  obtain ⟨na, nc, rfl, _⟩ := N_0.slice
  clear ht hln hwf
  go_enter Tryd.func9, Tryd.ntmps9
  go_wp2_with fail
  refine (HK.out _ hT.out).mono ?_
  rintro e w1 ⟨rfl, b1⟩
  have N_1 := N_0.below b1
  have t1 := b1
  clear N_0 b1
  go_wp2_with fail
  refine (HM.out _ N_1).mono ?_
  rintro e w2 ⟨l, ad, c, rfl, ⟨hlen, hsm⟩, r_2, b2⟩
  have N_2 := N_1.below b2
  have t2 := t1.trans (b2.mono t1.size)
  clear N_1 t1 b2
  clear N_2
  have hl8 : l.length ≤ 8 := by omega
  have hlj := onZero_laid hsm hl8
  have hzb := sizeJ_bound l hsm
  have hz4 : sizeJ l ≤ 400 := by omega
  have HLd := Lib.hid (fun v vl W h r t => llaid_zero l v vl W h r t hsm hl8)
  have hsmall := Lib.hid hsm
  clear hzb hlen hsm
  go_wp2_with fail
  refine (HB.out _).mono ?_
  rintro e w3 ⟨ab, cb, ac, cc, rfl, z_3, b3⟩
  have r_3 := r_2.below b3
  have t3 := t2.trans (b3.mono t2.size)
  clear r_2 t2 b3
  go_wp2_with fail
  refine (HLd.out _ _ _ z_3 r_3 (hT.out.below t3)).mono ?_
  rintro e w4 ⟨ab1, cb1, ac1, cc1, rfl, dr_4, b4⟩
  have a4 := Go.Joins.below_alloc1 w4 (.cells #[.slice ab1 12 cb1, .slice ac1 l.length cc1] 25)
  have D_4 := World.alloc_heap_new w4 (.cells #[.slice ab1 12 cb1, .slice ac1 l.length cc1] 25)
  have c4 := b4.trans (a4.mono b4.size)
  have geD := (t3.trans (b4.mono t3.size)).size
  have r_4 := r_3.below c4
  have z_4 := z_3.below c4
  have t4 := t3.trans (c4.mono t3.size)
  have d_4 := dr_4.below a4
  clear r_3 z_3 t3 dr_4 a4 b4 c4
  clear z_4
  by_cases hl0 : l.length = 0
  · have hl0' : ((l.length : Int) == 0) = true := by simp; exact List.length_eq_zero_iff.1 hl0
    clear hl0
    go_wp2
    go_ret
    exact ⟨rfl, t4⟩
  have hl0' : ((l.length : Int) == 0) = false := by rw [beq_eq_false_iff_ne]; omega
  have hl1 : 1 ≤ l.length := by omega
  go_wp2_with fail
  generalize hWg : (World.alloc w4 (.cells #[.slice ab1 12 cb1, .slice ac1 l.length cc1] 25)) = w4g at *
  clear hWg
  refine (Mod_some p0 (l.length : Int) _ hp0 (by omega) (by omega)).mono ?_
  rintro e w1x ⟨n, hn, rfl, rfl⟩
  have hnl : n < l.length := by omega
  have hsyn := syncD_ok hlj.1
  have hls := laid_sync hlj
  have hcl := chunk_len (readAll_length hlj.1)
  obtain ⟨S, hS⟩ : ∃ S : Dev, S = (chunk (readAll (onZero l)), []) := ⟨_, rfl⟩
  have hS1 : S.1.length = 12 := by rw [hS]; exact hcl
  have hS2 : S.2 = [] := by rw [hS]
  rw [← hS] at hsyn hls
  obtain ⟨cv, k1, k2, k3, k4, k5⟩ := cut_replay hls hS2 n hnl
  have HY := Lib.hid (fun v W h => (Sync_any (onZero l) v W h).mono (fun _ _ => as_disk (nb := 12) (nc := 0) 0 hsyn rfl hS1 (by rw [hS2]; rfl)))
  have hcv1 : cv.1.length = 12 := by rw [k2]; exact hS1
  have hcv2 : cv.2.length = 1 := by rw [k3]; rfl
  have HU := Lib.hid (fun v W h => (JCut_any S v 2 8 (sizeJ (l.take n) : Nat) W h).mono (fun _ _ => as_disk (nb := 12) (nc := 1) 0 k1 rfl hcv1 hcv2))
  obtain ⟨A, hA⟩ : ∃ A, A = sizeJ (l.take n) := ⟨_, rfl⟩
  have hA4 : A ≤ 400 := by have := sizeJ_take_le l n; omega
  obtain ⟨LN, hLN⟩ : ∃ LN, LN = 512 - A := ⟨_, rfl⟩
  have HC := Lib.hid (fun (m : Nat) (hm : m < LN) (v : Value) (W : World) (h : DiskIs W cv v) => by
    obtain ⟨C, q1, q2, q3⟩ := k5 (m + 1) (by omega) (by show m + 1 ≤ 512 - _; omega)
    have := (Crash_any cv v 0 ((m + 1 : Nat) : Int) W h).mono (fun _ _ => as_torn q1 (by rw [q2]; exact hS1) q3)
    rw [show ((m + 1 : Nat) : Int) = 1 + (m : Int) by omega] at this
    exact this)
  have hsync2 := syncD_ok k4.1
  have hl2 := laid_sync k4
  have hcl2 := chunk_len (readAll_length k4.1)
  obtain ⟨Y, hY⟩ : ∃ Y : Dev, Y = (chunk (readAll cv), []) := ⟨_, rfl⟩
  have hY1 : Y.1.length = 12 := by rw [hY]; show (chunk (readAll cv)).length = 12; rw [hcl2]; exact hcv1
  have hY2 : Y.2.length = 0 := by rw [hY]; rfl
  rw [← hY] at hsync2 hl2
  have HY2 := Lib.hid (fun v W h => (Sync_any cv v W h).mono (fun _ _ => as_disk (nb := 12) (nc := 0) 0 hsync2 rfl hY1 hY2))
  obtain ⟨e1, _, e3⟩ := replay_laid hl2
  rw [← hA] at e1 HU HC
  have e3' : cleanJ Y (2, 8) (A : Nat) = (true, 0) := by rw [hA]; exact e3
  have HCl := Lib.hid (fun v W h => (Clean_any Y v 2 8 (A : Nat) W h).mono (fun _ _ => ret_two (.bool true) (.int .i64 0) (by rw [e3']) (by rw [e3']; rfl)))
  have HRp := Lib.hid (fun D v vl W (hh : DiskIs W D v ∧ Row W 1 vl (l.take n).length (strVals (l.take n)) ∧ Tab W ∧ replayJ D (2, 8) = (l.take n, A, 0)) => replays_any D v vl (l.take n) A W hh.1 hh.2.1 hh.2.2.1 hh.2.2.2 (by rw [List.length_take]; omega))
  have hYr := Lib.hid e1
  have hA' := Lib.hid hA
  have hLNb : 1 ≤ LN ∧ LN ≤ 512 := by omega
  have hLNi : (512 : Int) - (A : Int) = (LN : Int) := by omega
  have HMd := Lib.hid (fun W => Mod_below t0 LN W ht0 (by omega) (by omega))
  clear hlj hsyn hls hcl hS hS1 hS2 k1 k2 k3 k4 k5 hcv1 hcv2 hsync2 hl2 hcl2 hY hY1 hY2 e1 e3 e3' hA hLN hz4 hn ht0 hp0
  have hT4 := Lib.hid t4
  have hR4 := Lib.hid r_4
  go_wp2
  go_loopw [13, 14] (fun at_ i wr => ∃ k : Nat, i = .int .i64 (k : Int) ∧ k ≤ n ∧ at_ = .int .i64 ((sizeJ (l.take k) : Nat) : Int) ∧ wr = w4g) (fun _ i _ => n - (intOf i).toNat)
  case atStart => exact ⟨0, rfl, Nat.zero_le _, rfl, rfl⟩
  case round =>
    obtain ⟨k, rfl, hk, rfl, rfl⟩ := hrel
    by_cases hlt : k < n
    · have hlt' : decide ((k : Int) < n) = true := by simp; omega
      have hkl : k < l.length := by omega
      obtain ⟨la, rfl, lx⟩ := step_at r_4 hkl
      have hs1 := sizeJ_take_succ l k hkl
      have hs2 := sizeJ_take_le l (k + 1)
      have hs3 := sizeJ_bound l hsmall.out
      have hs4 := (hsmall.out _ (List.getElem_mem hkl)).2
      obtain ⟨x, hx⟩ : ∃ x, x = l[k] := ⟨_, rfl⟩
      rw [← hx] at lx hs1 hs4
      obtain ⟨z0, hz0⟩ : ∃ z, z = sizeJ (l.take k) := ⟨_, rfl⟩
      rw [← hz0] at hs1 ⊢
      have hs1' := Lib.hid hs1
      have hzb0 : z0 ≤ 400 := by omega
      clear hs1 hs2 hs3 hz0 hx D_4 d_4 t4
      go_wp2
      exact ⟨⟨k + 1, by go_num, hlt, congrArg (Value.int .i64) (by rw [hs1'.out]; omega), trivial⟩, by simp [intOf]; omega⟩
    · obtain rfl : k = n := by omega
      have hlt' : decide ((k : Int) < k) = false := by simp
      rw [← hA'.out]
      have Dx0 := cell2_0 D_4
      have Dx1 := cell2_1 D_4
      go_wp2_with fail
      refine (HY.out _ _ d_4).mono ?_
      rintro e w5 ⟨ab5, cb5, ac5, cc5, rfl, xd, b5⟩
      clear Dx0 Dx1
      have D_q := heap_below D_4 b5
      have Df0 := frozen2 D_q 0
      have Df1 := frozen2 D_q 1
      have Dq0 := cell2_0 D_q
      have Dq1 := cell2_1 D_q
      have D_s := Lib.heap_setCell_same (i := 0) D_q (.slice ab5 12 cb5)
      have D_5 := set_two (x' := (.slice ab5 12 cb5)) (y' := (.slice ac5 0 cc5)) D_q
      have r_5 := Row.apart (j := 1) (u := (.slice ac5 0 cc5)) (Row.apart (j := 0) (u := (.slice ab5 12 cb5)) (r_4.below b5) D_q (strVals_no _)) D_s (strVals_no _)
      have d_5 := disk_apart (j := 1) (u := (.slice ac5 0 cc5)) (disk_apart (j := 0) (u := (.slice ab5 12 cb5)) xd D_q) D_s
      have t5 := below_set (j := 1) (u := (.slice ac5 0 cc5)) (below_set (j := 0) (u := (.slice ab5 12 cb5)) (t4.trans (b5.mono t4.size)) geD) geD
      clear D_4 r_4 t4 b5 xd D_q D_s d_4
      have Dx0 := cell2_0 D_5
      have Dx1 := cell2_1 D_5
      go_upto_region 13 with (fail)
      generalize hWg : (World.setCell (World.setCell w5 ⟨w4.heap.size, 0, none⟩ (.slice ab5 12 cb5)) ⟨w4.heap.size, 1, none⟩ (.slice ac5 0 cc5)) = w5g at *
      clear hWg
      clear Df0 Df1 Dq0 Dq1 Dx0 Dx1
      have lt5 : w4.heap.size < w5g.heap.size := (Array.getElem?_eq_some_iff.1 D_5).1
      go_cut [16, 17] from 68 to 74 (fun u v W => ∃ (ptr cb3 cc3 : Nat) (ab3 ac3 : Option Addr), u = .pointer (some ⟨ptr, 0, none⟩) ∧ v = .int .i64 0 ∧ W.heap[ptr]? = some (.cells #[.slice ab3 12 cb3, .slice ac3 1 cc3] 25 (0, 0)) ∧ DiskIs W cv (.agg #[.slice ab3 12 cb3, .slice ac3 1 cc3]) ∧ Below w5g.heap.size w5g W)
      case first =>
        have x0 := cell2_0 D_5
        have x1 := cell2_1 D_5
        have al := Go.Joins.below_alloc1 w5g (.cells #[.slice none 0 0, .slice none 0 0] 25)
        have z0 := cell_below al x0
        have z1 := cell_below al x1
        have hal := Lib.hid al
        have hd := Lib.hid d_5
        have ht := Lib.hid t5
        have hnew := Lib.hid (World.alloc_heap_new w5g (.cells #[.slice none 0 0, .slice none 0 0] 25))
        clear al
        go_region_held3 (fun V => V.cell? ⟨w4.heap.size, 0, none⟩ = some (.slice ab5 12 cb5) ∧ V.cell? ⟨w4.heap.size, 1, none⟩ = some (.slice ac5 0 cc5))
          (first | exact ⟨x0, x1⟩ | exact ⟨z0, z1⟩ | exact ⟨o0, o1⟩ | exact ⟨p0, p1⟩ | exact ⟨q0, q1⟩ | exact ⟨cell_below (Go.Joins.below_alloc1 _ _) o0, cell_below (Go.Joins.below_alloc1 _ _) o1⟩ | exact ⟨cell_below (Go.Joins.below_alloc1 _ _) p0, cell_below (Go.Joins.below_alloc1 _ _) p1⟩ | go_keep)
          (first
          | (go_at_call 39; refine (HF.out _).mono ?_; rintro e u6 ⟨rfl, y6⟩
             first
             | (have o0 := cell_below y6 (show (World.drew w5g).cell? _ = _ from x0)
                have o1 := cell_below y6 (show (World.drew w5g).cell? _ = _ from x1)
                have V6 := Lib.hid ((Below.refl _ w5g).drew.trans y6))
             | (have o0 := cell_below y6 (show (World.alloc w5g (.cells #[.slice none 0 0, .slice none 0 0] 25)).drew.cell? _ = _ from z0)
                have o1 := cell_below y6 (show (World.alloc w5g (.cells #[.slice none 0 0, .slice none 0 0] 25)).drew.cell? _ = _ from z1)
                have V6 := Lib.hid (hal.out.trans ((show Below (World.alloc w5g (.cells #[.slice none 0 0, .slice none 0 0] 25)).heap.size (World.alloc w5g (.cells #[.slice none 0 0, .slice none 0 0] 25)) u6 from (Below.refl _ _).drew.trans y6).mono hal.out.size))
                have n6 := heap_below (show (World.alloc w5g (.cells #[.slice none 0 0, .slice none 0 0] 25)).drew.heap[w5g.heap.size]? = _ from hnew.out) y6))
          | (go_at_call 28; refine (HU.out _ _ (by first | exact hd.out.below V6.out | exact (hd.out.below V6.out).below (Go.Joins.below_alloc1 _ _))).mono ?_; rintro e u7 ⟨ab3, cb3, ac3, cc3, rfl, xd, y7⟩
             have hl6 := V6.out.size
             first
             | (have p0 := cell_below y7 o0
                have p1 := cell_below y7 o1
                have V7 := Lib.hid (V6.out.trans (y7.mono V6.out.size))
                try (have n7 := heap_below n6 y7; have m0 := cell2_0 n7; have m1 := cell2_1 n7; have m4 := frozen2 n7 0; have m5 := frozen2 n7 1; have q0 := cell_far2 (g := w5g.heap.size) (j := 0) (j' := 1) (u := .slice ab3 12 cb3) (u' := .slice ac3 1 cc3) p0 (by show w4.heap.size ≠ _; omega); have q1 := cell_far2 (g := w5g.heap.size) (j := 0) (j' := 1) (u := .slice ab3 12 cb3) (u' := .slice ac3 1 cc3) p1 (by show w4.heap.size ≠ _; omega)))
             | (have a6 := Go.Joins.below_alloc1 u6 (.cells #[.slice none 0 0, .slice none 0 0] 25)
                have ay7 := a6.trans (y7.mono a6.size)
                have p0 := cell_below ay7 o0
                have p1 := cell_below ay7 o1
                have V7 := Lib.hid (V6.out.trans (ay7.mono V6.out.size))
                have n7 := heap_below (World.alloc_heap_new u6 (.cells #[.slice none 0 0, .slice none 0 0] 25)) y7; have m0 := cell2_0 n7; have m1 := cell2_1 n7; have m4 := frozen2 n7 0; have m5 := frozen2 n7 1
                have q0 := cell_far2 (g := u6.heap.size) (j := 0) (j' := 1) (u := .slice ab3 12 cb3) (u' := .slice ac3 1 cc3) p0 (by show w4.heap.size ≠ _; omega)
                have q1 := cell_far2 (g := u6.heap.size) (j := 0) (j' := 1) (u := .slice ab3 12 cb3) (u' := .slice ac3 1 cc3) p1 (by show w4.heap.size ≠ _; omega))))
        all_goals
          go_wp2_with fail
          go_meet
          first
            | exact ⟨_, _, _, _, _, rfl, rfl, World.alloc_heap_new u7 _, xd.alloc _, V7.out.alloc V7.out.size _⟩
            | exact ⟨_, _, _, _, _, rfl, rfl, set_two n7, disk_apart (disk_apart xd n7) (Lib.heap_setCell_same (i := 0) n7 _), below_set (below_set V7.out (Nat.le_refl _)) (Nat.le_refl _)⟩
            | exact ⟨_, _, _, _, _, rfl, rfl, set_two n7, disk_apart (disk_apart xd n7) (Lib.heap_setCell_same (i := 0) n7 _), below_set (below_set V7.out hl6) hl6⟩
      case rest =>
        obtain ⟨w6, rfl⟩ : ∃ w6, w6 = wc := ⟨wc, rfl⟩
        obtain ⟨g6, cb6, cc6, ab6, ac6, rfl, rfl, C_6, c_6, z5⟩ := hcut
        have r_6 := r_5.below z5
        have D_6 := heap_below D_5 z5
        have d_6 := d_5.below z5
        have t6 := t5.trans (z5.mono t5.size)
        clear r_5 D_5 d_5 t5 z5 lt5
        clear D_6 d_6
        have Cx0 := cell2_0 C_6
        have Cx1 := cell2_1 C_6
        go_wp2_with fail
        refine (HF.out _).mono ?_
        rintro e w7 ⟨rfl, b7⟩
        have r_7 := r_6.below b7
        have C_7 := heap_below C_6 b7
        have c_7 := c_6.below b7
        have t7 := t6.trans (b7.mono t6.size)
        clear Cx0 Cx1 r_6 C_6 c_6 t6 b7
        go_upto_region 17 with (fail)
        have lt7 : g6 < w7.heap.size := (Array.getElem?_eq_some_iff.1 C_7).1
        go_cut [19, 20] from 92 to 100 (fun u v W => ∃ (ptr cb3 cc3 : Nat) (ab3 ac3 : Option Addr) (XD : Dev), u = .pointer (some ⟨ptr, 0, none⟩) ∧ v = .int .i64 0 ∧ W.heap[ptr]? = some (.cells #[.slice ab3 12 cb3, .slice ac3 0 cc3] 25 (0, 0)) ∧ DiskIs W XD (.agg #[.slice ab3 12 cb3, .slice ac3 0 cc3]) ∧ Hid (TornTo (l.take k) A XD) ∧ Below w7.heap.size w7 W)
        case first =>
          have x0 := cell2_0 C_7
          have x1 := cell2_1 C_7
          have al := Go.Joins.below_alloc1 w7 (.cells #[.slice none 0 0, .slice none 0 0] 25)
          have z0 := cell_below al x0
          have z1 := cell_below al x1
          have hal := Lib.hid al
          have hd := Lib.hid c_7
          have ht := Lib.hid t7
          have hnew := Lib.hid (World.alloc_heap_new w7 (.cells #[.slice none 0 0, .slice none 0 0] 25))
          clear al
          go_region_held3 (fun V => V.cell? ⟨g6, 0, none⟩ = some (.slice ab6 12 cb6) ∧ V.cell? ⟨g6, 1, none⟩ = some (.slice ac6 1 cc6))
            (first | exact ⟨x0, x1⟩ | exact ⟨z0, z1⟩ | exact ⟨o0, o1⟩ | exact ⟨p0, p1⟩ | exact ⟨q0, q1⟩ | exact ⟨cell_below (Go.Joins.below_alloc1 _ _) o0, cell_below (Go.Joins.below_alloc1 _ _) o1⟩ | exact ⟨cell_below (Go.Joins.below_alloc1 _ _) p0, cell_below (Go.Joins.below_alloc1 _ _) p1⟩ | go_keep)
            (first
            | (go_at_call 40; refine (HMd.out _).mono ?_; rintro e u6 ⟨m, hm, rfl, y6⟩
               have wm : IntKind.i64.wrap (1 + (m : Int)) = 1 + (m : Int) := by rw [IntKind.wrap_i64]; omega
               first
               | (have o0 := cell_below y6 (show (World.drew w7).cell? _ = _ from x0)
                  have o1 := cell_below y6 (show (World.drew w7).cell? _ = _ from x1)
                  have V6 := Lib.hid ((Below.refl _ w7).drew.trans y6))
               | (have o0 := cell_below y6 (show (World.alloc w7 (.cells #[.slice none 0 0, .slice none 0 0] 25)).drew.cell? _ = _ from z0)
                  have o1 := cell_below y6 (show (World.alloc w7 (.cells #[.slice none 0 0, .slice none 0 0] 25)).drew.cell? _ = _ from z1)
                  have V6 := Lib.hid (hal.out.trans ((show Below (World.alloc w7 (.cells #[.slice none 0 0, .slice none 0 0] 25)).heap.size (World.alloc w7 (.cells #[.slice none 0 0, .slice none 0 0] 25)) u6 from (Below.refl _ _).drew.trans y6).mono hal.out.size))
                  have n6 := heap_below (show (World.alloc w7 (.cells #[.slice none 0 0, .slice none 0 0] 25)).drew.heap[w7.heap.size]? = _ from hnew.out) y6))
            | (go_at_call 45; refine (HC.out m hm _ _ (by first | exact hd.out.below V6.out | exact (hd.out.below V6.out).below (Go.Joins.below_alloc1 _ _))).mono ?_; rintro e u7 ⟨XD, ab3, cb3, ac3, cc3, rfl, xd, xr, y7⟩
               have hl6 := V6.out.size
               first
               | (have p0 := cell_below y7 o0
                  have p1 := cell_below y7 o1
                  have V7 := Lib.hid (V6.out.trans (y7.mono V6.out.size))
                  try (have n7 := heap_below n6 y7; have m0 := cell2_0 n7; have m1 := cell2_1 n7; have m4 := frozen2 n7 0; have m5 := frozen2 n7 1; have q0 := cell_far2 (g := w7.heap.size) (j := 0) (j' := 1) (u := .slice ab3 12 cb3) (u' := .slice ac3 0 cc3) p0 (by show g6 ≠ _; omega); have q1 := cell_far2 (g := w7.heap.size) (j := 0) (j' := 1) (u := .slice ab3 12 cb3) (u' := .slice ac3 0 cc3) p1 (by show g6 ≠ _; omega)))
               | (have a6 := Go.Joins.below_alloc1 u6 (.cells #[.slice none 0 0, .slice none 0 0] 25)
                  have ay7 := a6.trans (y7.mono a6.size)
                  have p0 := cell_below ay7 o0
                  have p1 := cell_below ay7 o1
                  have V7 := Lib.hid (V6.out.trans (ay7.mono V6.out.size))
                  have n7 := heap_below (World.alloc_heap_new u6 (.cells #[.slice none 0 0, .slice none 0 0] 25)) y7; have m0 := cell2_0 n7; have m1 := cell2_1 n7; have m4 := frozen2 n7 0; have m5 := frozen2 n7 1
                  have q0 := cell_far2 (g := u6.heap.size) (j := 0) (j' := 1) (u := .slice ab3 12 cb3) (u' := .slice ac3 0 cc3) p0 (by show g6 ≠ _; omega)
                  have q1 := cell_far2 (g := u6.heap.size) (j := 0) (j' := 1) (u := .slice ab3 12 cb3) (u' := .slice ac3 0 cc3) p1 (by show g6 ≠ _; omega))))
          all_goals
            go_wp2_with fail
            go_meet
            first
              | exact ⟨_, _, _, _, _, _, rfl, rfl, World.alloc_heap_new u7 _, xd.alloc _, Lib.hid xr, V7.out.alloc V7.out.size _⟩
              | exact ⟨_, _, _, _, _, _, rfl, rfl, set_two n7, disk_apart (disk_apart xd n7) (Lib.heap_setCell_same (i := 0) n7 _), Lib.hid xr, below_set (below_set V7.out (Nat.le_refl _)) (Nat.le_refl _)⟩
              | exact ⟨_, _, _, _, _, _, rfl, rfl, set_two n7, disk_apart (disk_apart xd n7) (Lib.heap_setCell_same (i := 0) n7 _), Lib.hid xr, below_set (below_set V7.out hl6) hl6⟩
        case rest =>
          obtain ⟨w8, rfl⟩ : ∃ w8, w8 = wc := ⟨wc, rfl⟩
          obtain ⟨g8, cb8, cc8, ab8, ac8, XD, rfl, rfl, X_8, x_8, hex8, z7⟩ := hcut
          have r_8 := r_7.below z7
          have C_8 := heap_below C_7 z7
          have c_8 := c_7.below z7
          have t8 := t7.trans (z7.mono t7.size)
          clear r_7 C_7 c_7 t7 z7 lt7
          have Cx0 := cell2_0 C_8
          have Cx1 := cell2_1 C_8
          go_wp2_with fail
          refine (HY2.out _ _ c_8).mono ?_
          rintro e w9 ⟨aby, cby, acy, ccy, rfl, yr_9, b9⟩
          have a9 := Go.Joins.below_alloc1 w9 (.cells #[.slice aby 12 cby, .slice acy 0 ccy] 25)
          have Y_9 := World.alloc_heap_new w9 (.cells #[.slice aby 12 cby, .slice acy 0 ccy] 25)
          have c9 := b9.trans (a9.mono b9.size)
          have geY := (t8.trans (b9.mono t8.size)).size
          have r_9 := r_8.below c9
          have C_9 := heap_below C_8 c9
          have c_9 := c_8.below c9
          have X_9 := heap_below X_8 c9
          have x_9 := x_8.below c9
          have t9 := t8.trans (c9.mono t8.size)
          have y_9 := yr_9.below a9
          clear Cx0 Cx1 r_8 C_8 c_8 X_8 x_8 t8 yr_9 a9 b9 c9
          clear C_9 c_9
          have x0_9 := cell2_0 Y_9
          have x1_9 := cell2_1 Y_9
          have HD9 := Lib.hid y_9
          have HT9 := Lib.hid t9
          go_wp2_with fail
          go_region_held3 (fun V => V.cell? ⟨w9.heap.size, 0, none⟩ = some (.slice aby 12 cby) ∧ V.cell? ⟨w9.heap.size, 1, none⟩ = some (.slice acy 0 ccy))
            (first | exact ⟨x0_9, x1_9⟩ | exact ⟨o0_9, o1_9⟩ | exact ⟨p0_9, p1_9⟩ | go_keep)
            (first
            | (go_at_call 39; refine (HF.out _).mono ?_; rintro e u9 ⟨rfl, y9⟩
               have o0_9 := cell_below y9 (show (World.drew (World.alloc w9 (.cells #[.slice aby 12 cby, .slice acy 0 ccy] 25))).cell? _ = _ from x0_9)
               have o1_9 := cell_below y9 (show (World.drew (World.alloc w9 (.cells #[.slice aby 12 cby, .slice acy 0 ccy] 25))).cell? _ = _ from x1_9)
               have V9 := Lib.hid ((Below.refl _ (World.alloc w9 (.cells #[.slice aby 12 cby, .slice acy 0 ccy] 25))).drew.trans y9))
            | (go_at_call 26; refine (HCl.out _ _ (HD9.out.below V9.out)).mono ?_; rintro e w10 ⟨rfl, b10⟩
               have p0_9 := cell_below b10 o0_9
               have p1_9 := cell_below b10 o1_9
               have Z9 := Lib.hid (V9.out.trans (b10.mono V9.out.size))))
          have z9 := Z9.out
          have r_10 := r_9.below z9
          have X_10 := heap_below X_9 z9
          have x_10 := x_9.below z9
          have Y_10 := heap_below Y_9 z9
          have y_10 := y_9.below z9
          have t10 := t9.trans (z9.mono t9.size)
          clear r_9 X_9 x_9 Y_9 y_9 t9 x0_9 x1_9 o0_9 o1_9 p0_9 p1_9 HD9 HT9 V9 Z9 z9 y9 b10
          obtain ⟨pa, pc, hsl, rp⟩ := part_to r_10 k (by omega)
          have s0 := cell2_0 X_10
          have s1 := cell2_1 X_10
          have s2 := cell2_0 Y_10
          have s3 := cell2_1 Y_10
          have X0 := Lib.hid x_10
          have Y0 := Lib.hid y_10
          have R0 := Lib.hid rp
          have T0 := Lib.hid t10
          clear X_10 Y_10 x_10 y_10 r_10 t10 rp
          go_upto_region 20 with (fail)
          go_region_held3 (fun V => V.cell? ⟨g8, 0, none⟩ = some (.slice ab8 12 cb8) ∧ V.cell? ⟨g8, 1, none⟩ = some (.slice ac8 0 cc8) ∧ V.cell? ⟨w9.heap.size, 0, none⟩ = some (.slice aby 12 cby) ∧ V.cell? ⟨w9.heap.size, 1, none⟩ = some (.slice acy 0 ccy))
            (first | exact ⟨s0, s1, s2, s3⟩ | exact ⟨o0, o1, o2, o3⟩ | exact ⟨p0, p1, p2, p3⟩ | go_keep)
            (first
            | (go_at_call 38; refine (HRp.out _ _ _ _ (by exact ⟨Y1.out, R1.out, hT.out.below T1.out, hYr.out⟩)).mono ?_; rintro e u2 ⟨rfl, y2⟩
               have p0 := cell_below y2 o0; have p1 := cell_below y2 o1; have p2 := cell_below y2 o2; have p3 := cell_below y2 o3
               have T2 := Lib.hid (T1.out.trans (y2.mono T1.out.size)))
            | (go_at_call 38; refine (HRp.out _ _ _ _ (by exact ⟨X0.out.drew, R0.out.drew, hT.out.below T0.out.drew, hex8.out.2.2⟩)).mono ?_; rintro e u1 ⟨rfl, y1⟩
               have o0 := cell_below y1 (show (World.drew w10).cell? _ = _ from s0); have o1 := cell_below y1 (show (World.drew w10).cell? _ = _ from s1); have o2 := cell_below y1 (show (World.drew w10).cell? _ = _ from s2); have o3 := cell_below y1 (show (World.drew w10).cell? _ = _ from s3)
               have T1 := Lib.hid (T0.out.drew.trans ((show Below (World.drew w10).heap.size (World.drew w10) u1 from y1).mono T0.out.size))
               have Y1 := Lib.hid (Y0.out.drew.below y1)
               have R1 := Lib.hid (R0.out.drew.below y1)))
          go_wp2
          go_ret
          exact ⟨rfl, T2.out⟩
end Go.Proofs.YthhghggaoljcbaaDoor
