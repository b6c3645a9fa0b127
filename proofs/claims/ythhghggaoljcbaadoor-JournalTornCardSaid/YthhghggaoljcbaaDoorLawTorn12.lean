/- The walk of JournalTorn, chapter 12 (journal). -/
import Derived.Test.YthhghggaoljcbaaDoorLawCuts12
import Derived.Test.YthhghggaoljcbaaDoorJournalV
namespace Go.Proofs.YthhghggaoljcbaaDoor
open Go.RowKit Disk11 Journal12 Sum2

theorem as_recsL {L : Nat} {w : World} {n : Nat} {e : Ending} {w' : World} (hL : L = min n 8) (h : RecsPost w n e w') : ∃ (l : List (List UInt8)) (ad : Option Addr) (c : Nat), e = .returned (.slice ad L c) ∧ (l.length = L ∧ ∀ x ∈ l, 1 ≤ x.length ∧ x.length ≤ 40) ∧ Row w' 1 (.slice ad L c) L (strVals l) ∧ Below w.heap.size w w' := by
  obtain ⟨l, ad, c, h1, h2, h3, h4⟩ := as_recs h
  obtain rfl : l.length = L := by rw [h2.1, hL]
  exact ⟨l, ad, c, h1, ⟨rfl, h2.2⟩, h3, h4⟩
theorem part_toL {w : World} {ad : Option Addr} {c n : Nat} {l : List (List UInt8)} (h : Row w 1 (.slice ad n c) n (strVals l)) (hn : l.length = n) (i : Nat) (hi : i ≤ n) (z : Int) (hz : (i : Int) = z) :
    ∃ ad' c', (∀ W, (Instr.slice 22 (.slice ad n c) none (some (.int .i64 z)) none).run Tryd.prog W = .ok (.slice ad' i c') W) ∧ Row w 1 (.slice ad' i c') i (strVals (l.take i)) := by
  subst hn hz
  obtain ⟨a, c', h1, h2⟩ := part_to h i hi
  rw [List.length_take, Nat.min_eq_left hi] at h2
  exact ⟨a, c', h1, h2⟩
theorem llaid_from (S : Dev) (v vl : Value) (lo l : List (List UInt8)) (w : World) (h : DiskIs w S v) (hl : Row w 1 vl l.length (strVals l)) (ht : Tab w) (hj : LaidJ 2 8 S lo) (h1 : S.1.length = 12) (h2 : S.2 = []) (hs : ∀ x ∈ l, 1 ≤ x.length ∧ x.length ≤ 40) (hz : sizeJ (lo ++ l) ≤ 512) (hn : l.length ≤ 8) :
    Calls Tryd.prog 36 #[v, .int .i64 (sizeJ lo : Nat), vl] w fun e w' => ∃ ab cb ac cc, e = .returned (.tuple #[.agg #[.slice ab 12 cb, .slice ac l.length cc], .int .i64 (sizeJ (lo ++ l) : Nat), .bool true]) ∧ DiskIs w' (putJ 2 S lo l) (.agg #[.slice ab 12 cb, .slice ac l.length cc]) ∧ Below w.heap.size w w' := by
  refine (llaid_any S v vl lo l w h hl ht hj (small40 hs) hz (by rw [h2]; simp; omega)).mono ?_
  rintro e w' ⟨ab, cb, ac, cc, rfl, hd, hb⟩
  rw [h1, h2, show ([] : List Wr).length + l.length = l.length from Nat.zero_add _] at hd ⊢
  exact ⟨ab, cb, ac, cc, rfl, hd, hb⟩
/-- What a crash leaves: the records of before, those that were kept, and the torn one if it is whole. -/
theorem torn_crash {S : Dev} {lo ln : List (List UInt8)} (h : LaidJ 2 8 S lo) (h1 : S.1.length = 12) (h0 : S.2 = []) (hs : ∀ x ∈ ln, 1 ≤ x.length ∧ x.length ≤ 40) (hz : sizeJ (lo ++ ln) ≤ 512) (hn : ln.length ≤ 8) (k m : Nat) (wl : List (List UInt8))
    (hc : (k = ln.length ∧ m = 0 ∧ wl = lo ++ ln.take k) ∨ (∃ hk : k < ln.length, m < ln[k].length + 10 ∧ wl = lo ++ ln.take k) ∨ (∃ hk : k < ln.length, m = ln[k].length + 10 ∧ wl = lo ++ ln.take k ++ [ln[k]])) (v : Value) (W : World) (hd : DiskIs W (putJ 2 S lo ln) v) :
    Calls Tryd.prog 45 #[v, .int .i64 (k : Int), .int .i64 (m : Int)] W fun e w' => ∃ (XD : Dev) (ab : Option Addr) (cb : Nat) (ac : Option Addr) (cc : Nat), e = .returned (.tuple #[.agg #[.slice ab 12 cb, .slice ac 0 cc], .int .i64 0]) ∧ DiskIs w' XD (.agg #[.slice ab 12 cb, .slice ac 0 cc]) ∧ TornTo wl (sizeJ wl) XD ∧ Below W.heap.size W w' := by
  have hsj := small40 hs
  rcases hc with ⟨rfl, rfl, rfl⟩ | ⟨hk, hm, rfl⟩ | ⟨hk, rfl, rfl⟩
  · obtain ⟨C, q1, q2, q3⟩ := crash_all h h0 hsj hz (by omega)
    rw [List.take_length]
    exact (Crash_any _ v _ _ W hd).mono (fun _ _ => as_torn q1 (q2.trans h1) q3)
  · obtain ⟨C, q1, q2, q3, _⟩ := crash_mid h h0 hsj hz (by omega) k m hk (by omega)
    exact (Crash_any _ v _ _ W hd).mono (fun _ _ => as_torn q1 (q2.trans h1) (q3 hm))
  · obtain ⟨C, q1, q2, _, q3⟩ := crash_mid h h0 hsj hz (by omega) k (ln[k].length + 10) hk (Nat.le_refl _)
    exact (Crash_any _ v _ _ W hd).mono (fun _ _ => as_torn q1 (q2.trans h1) (q3 rfl))

set_option maxHeartbeats 8000000 in
set_option maxRecDepth 100000 in
theorem JournalTorn_any (nums more : List Int) (v vm : Value) (p0 t0 : Int) (w : World) (hp0 : I64 p0) (ht0 : I64 t0) (hln : nums.length ≤ maxLen) (hwf : ∀ n ∈ nums, (Lit.int .i64 n).wf = true) (N_0 : Row w 1 v nums.length (nums.map fun n => .int .i64 n)) (hlm : more.length ≤ maxLen) (hwm : ∀ n ∈ more, (Lit.int .i64 n).wf = true) (M_0 : Row w 1 vm more.length (more.map fun n => .int .i64 n)) (ht : Tab w) :
    Calls Tryd.prog 8 #[v, vm, .int .i64 p0, .int .i64 t0] w fun e w' => e = .returned (.bool true) ∧ Below w.heap.size w w' := by
  have HK := Lib.hid (fun W t => JournalKnown_any W t)
  obtain ⟨L, hL⟩ : ∃ L, L = min nums.length 8 := ⟨_, rfl⟩
  obtain ⟨M, hM⟩ : ∃ M, M = min more.length 8 := ⟨_, rfl⟩
  obtain ⟨lo5, hlo5⟩ : ∃ q : Nat, q = min 5 L := ⟨_, rfl⟩
  obtain ⟨ln4, hln4⟩ : ∃ q : Nat, q = min 4 M := ⟨_, rfl⟩
  have HM := Lib.hid (fun W h => (records_nums nums v W hln hwf h).mono (fun _ _ => as_recsL hL))
  have HN := Lib.hid (fun W h => (records_nums more vm W hlm hwm h).mono (fun _ _ => as_recsL hM))
  have hbo : lo5 ≤ 5 ∧ lo5 ≤ L := by omega
  have hbn : ln4 ≤ 4 ∧ ln4 ≤ M := by omega
  have HB := Lib.hid (fun W => lblank_any W)
  have hT := Lib.hid ht
  obtain ⟨na, nc, rfl, _⟩ := N_0.slice
  obtain ⟨ma, mc, rfl, _⟩ := M_0.slice
  have hm5 : min 5 (L : Int) = (lo5 : Int) := by omega
  have hm4 : min 4 (M : Int) = (ln4 : Int) := by omega
  clear ht hln hwf hlm hwm hL hM hlo5 hln4
  go_enter Tryd.func8, Tryd.ntmps8
  go_wp2_with fail
  refine (HK.out _ hT.out).mono ?_
  rintro e w1 ⟨rfl, b1⟩
  have N_1 := N_0.below b1
  have M_1 := M_0.below b1
  have t1 := b1
  clear N_0 M_0 b1
  go_upto_region 2 with (fail)
  go_cut [10, 11] from 23 to 36 (fun u v W => ∃ (lo ln : List (List UInt8)) (ao an : Option Addr) (co cn : Nat), u = .slice ao lo.length co ∧ v = .slice an ln.length cn ∧ (lo.length ≤ 5 ∧ ln.length ≤ 4) ∧ Hid (∀ x ∈ lo, 1 ≤ x.length ∧ x.length ≤ 40) ∧ Hid (∀ x ∈ ln, 1 ≤ x.length ∧ x.length ≤ 40) ∧ Row W 1 (.slice ao lo.length co) lo.length (strVals lo) ∧ Row W 1 (.slice an ln.length cn) ln.length (strVals ln) ∧ Below w1.heap.size w1 W)
  case first =>
    have N1 := Lib.hid N_1
    have M1 := Lib.hid M_1
    clear N_1 M_1 t1
    go_region_held3 (fun _ => True) (exact trivial)
      (first
      | (go_at_call 35; refine (HN.out _ M4.out).mono ?_; rintro e u4 ⟨l4, a4, c4, rfl, ⟨hl4, hs4⟩, r4, y4⟩
         have T4 := Lib.hid (T3.out.trans (y4.mono T3.out.size)); have P4 := Lib.hid (P3.out.below y4); have Q4 := Lib.hid (Q3.out.below y4))
      | (go_at_call 35; refine (HN.out _ M3.out).mono ?_; rintro e u3 ⟨l3, a3, c3, rfl, ⟨hl3, hs3⟩, r3, y3⟩
         obtain ⟨pa3, pc3, hsl3, rp3⟩ := part_toL r3 hl3 ln4 hbn.2 _ rfl
         have Q3 := Lib.hid rp3; have M4 := Lib.hid (M3.out.below y3); have T3 := Lib.hid (T2.out.trans (y3.mono T2.out.size)); have P3 := Lib.hid (P2.out.below y3))
      | (go_at_call 35; refine (HM.out _ N2.out).mono ?_; rintro e u2 ⟨l2, a2, c2, rfl, ⟨hl2, hs2⟩, r2, y2⟩
         have P2 := Lib.hid (P1.out.below y2); have M3 := Lib.hid (M2.out.below y2); have T2 := Lib.hid (T1.out.trans (y2.mono T1.out.size)))
      | (go_at_call 35; refine (HM.out _ N1.out.drew).mono ?_; rintro e u1 ⟨l1, a1, c1, rfl, ⟨hl1, hs1⟩, r1, y1⟩
         obtain ⟨pa1, pc1, hsl1, rp1⟩ := part_toL r1 hl1 lo5 hbo.2 _ rfl
         have P1 := Lib.hid rp1; have N2 := Lib.hid (N1.out.drew.below y1); have M2 := Lib.hid (M1.out.drew.below y1); have T1 := Lib.hid ((Below.refl _ w1).drew.trans y1)))
    all_goals
      go_wp2_with fail
      go_meet
      have e1 : (l1.take lo5).length = lo5 := by rw [List.length_take]; omega
      have e2 : (l3.take ln4).length = ln4 := by rw [List.length_take]; omega
      exact ⟨l1.take lo5, l3.take ln4, pa1, pa3, pc1, pc3, by rw [e1], by rw [e2], ⟨by omega, by omega⟩, Lib.hid (fun x hx => hs1 x (List.mem_of_mem_take hx)), Lib.hid (fun x hx => hs3 x (List.mem_of_mem_take hx)), by rw [e1]; exact P4.out, by rw [e2]; exact Q4.out, T4.out⟩
  case rest =>
    obtain ⟨w2, rfl⟩ : ∃ w2, w2 = wc := ⟨wc, rfl⟩
    obtain ⟨lo, ln, ao, an, co, cn, rfl, rfl, ⟨hlo5, hln4⟩, hso, hsn, o_2, n_2, z2⟩ := hcut
    have t2 := t1.trans (z2.mono t1.size)
    clear z2 N_1 M_1 t1 HM HN hbo hbn hm5 hm4
    have hlj := onZero_laid hso.out (by omega : lo.length ≤ 8)
    have hsyn := syncD_ok hlj.1
    have hls := laid_sync hlj
    have hcl := chunk_len (readAll_length hlj.1)
    obtain ⟨S, hS⟩ : ∃ S : Dev, S = (chunk (readAll (onZero lo)), []) := ⟨_, rfl⟩
    have hS1 : S.1.length = 12 := by rw [hS]; exact hcl
    have hS2 : S.2 = [] := by rw [hS]
    rw [← hS] at hsyn hls
    have hzb : sizeJ (lo ++ ln) ≤ 512 := by
      have h1 := sizeJ_bound lo hso.out
      have h2 := sizeJ_bound ln hsn.out
      rw [sizeJ_append]; omega
    have HLd := Lib.hid (fun v vl W h r t => llaid_zero lo v vl W h r t hso.out (by omega))
    have HY := Lib.hid (fun v W h => (Sync_any (onZero lo) v W h).mono (fun _ _ => as_disk (nb := 12) (nc := 0) 0 hsyn rfl hS1 (by rw [hS2]; rfl)))
    have HL2 := Lib.hid (fun v vl W h r t => llaid_from S v vl lo ln W h r t hls hS1 hS2 hsn.out hzb (by omega))
    have HC := Lib.hid (fun k m wl hc v W h => torn_crash hls hS1 hS2 hsn.out hzb (by omega) k m wl hc v W h)
    obtain ⟨Z, hZ⟩ : ∃ Z, Z = sizeJ lo := ⟨_, rfl⟩
    obtain ⟨Z2, hZ2⟩ : ∃ Z, Z = sizeJ (lo ++ ln) := ⟨_, rfl⟩
    rw [← hZ] at HLd HL2
    rw [← hZ2] at HL2
    clear hlj hsyn hls hcl hS hS1 hS2 hzb hZ hZ2
    go_wp2_with fail
    refine (HB.out _).mono ?_
    rintro e w3 ⟨ab, cb, ac, cc, rfl, z_3, b3⟩
    have o_3 := o_2.below b3
    have n_3 := n_2.below b3
    have t3 := t2.trans (b3.mono t2.size)
    clear o_2 n_2 t2 b3
    go_wp2_with fail
    refine (HLd.out _ _ _ z_3 o_3 (hT.out.below t3)).mono ?_
    rintro e w4 ⟨ab1, cb1, ac1, cc1, rfl, dr_4, b4⟩
    have a4 := Go.Joins.below_alloc1 w4 (.cells #[.slice ab1 12 cb1, .slice ac1 lo.length cc1] 25)
    have D_4 := World.alloc_heap_new w4 (.cells #[.slice ab1 12 cb1, .slice ac1 lo.length cc1] 25)
    have c4 := b4.trans (a4.mono b4.size)
    have geD := (t3.trans (b4.mono t3.size)).size
    have o_4 := o_3.below c4
    have n_4 := n_3.below c4
    have z_4 := z_3.below c4
    have t4 := t3.trans (c4.mono t3.size)
    have d_4 := dr_4.below a4
    clear o_3 n_3 z_3 t3 dr_4 a4 b4 c4
    clear z_4
    have Dx0 := cell2_0 D_4
    have Dx1 := cell2_1 D_4
    go_wp2_with fail
    refine (HY.out _ _ d_4).mono ?_
    rintro e w5 ⟨ab5, cb5, ac5, cc5, rfl, xd, b5⟩
    clear Dx0 Dx1
    have D_q := heap_below D_4 b5
    have Df0 := frozen2 D_q 0
    have Df1 := frozen2 D_q 1
    have Dq0 := cell2_0 D_q
    have Dq1 := cell2_1 D_q
    have D_s := Lib.heap_setCell_same (i := 0) D_q (.slice ab5 12 cb5)
    have D_5 := set_two (x' := (.slice ab5 12 cb5)) (y' := (.slice ac5 0 cc5)) D_q
    have o_5 := Row.apart (j := 1) (u := (.slice ac5 0 cc5)) (Row.apart (j := 0) (u := (.slice ab5 12 cb5)) (o_4.below b5) D_q (strVals_no _)) D_s (strVals_no _)
    have n_5 := Row.apart (j := 1) (u := (.slice ac5 0 cc5)) (Row.apart (j := 0) (u := (.slice ab5 12 cb5)) (n_4.below b5) D_q (strVals_no _)) D_s (strVals_no _)
    have d_5 := disk_apart (j := 1) (u := (.slice ac5 0 cc5)) (disk_apart (j := 0) (u := (.slice ab5 12 cb5)) xd D_q) D_s
    have t5 := below_set (j := 1) (u := (.slice ac5 0 cc5)) (below_set (j := 0) (u := (.slice ab5 12 cb5)) (t4.trans (b5.mono t4.size)) geD) geD
    clear D_4 o_4 n_4 t4 b5 xd D_q D_s d_4
    have Dx0 := cell2_0 D_5
    have Dx1 := cell2_1 D_5
    go_wp2_with fail
    generalize hWg : (World.setCell (World.setCell w5 ⟨w4.heap.size, 0, none⟩ (.slice ab5 12 cb5)) ⟨w4.heap.size, 1, none⟩ (.slice ac5 0 cc5)) = w5g at *
    clear hWg
    refine (HL2.out _ _ _ d_5 n_5 (hT.out.below t5)).mono ?_
    rintro e w6 ⟨ab6, cb6, ac6, cc6, rfl, xd, b6⟩
    clear Df0 Df1 Dq0 Dq1 Dx0 Dx1
    have D_q := heap_below D_5 b6
    have Df0 := frozen2 D_q 0
    have Df1 := frozen2 D_q 1
    have Dq0 := cell2_0 D_q
    have Dq1 := cell2_1 D_q
    have D_s := Lib.heap_setCell_same (i := 0) D_q (.slice ab6 12 cb6)
    have D_6 := set_two (x' := (.slice ab6 12 cb6)) (y' := (.slice ac6 ln.length cc6)) D_q
    have o_6 := Row.apart (j := 1) (u := (.slice ac6 ln.length cc6)) (Row.apart (j := 0) (u := (.slice ab6 12 cb6)) (o_5.below b6) D_q (strVals_no _)) D_s (strVals_no _)
    have n_6 := Row.apart (j := 1) (u := (.slice ac6 ln.length cc6)) (Row.apart (j := 0) (u := (.slice ab6 12 cb6)) (n_5.below b6) D_q (strVals_no _)) D_s (strVals_no _)
    have d_6 := disk_apart (j := 1) (u := (.slice ac6 ln.length cc6)) (disk_apart (j := 0) (u := (.slice ab6 12 cb6)) xd D_q) D_s
    have t6 := below_set (j := 1) (u := (.slice ac6 ln.length cc6)) (below_set (j := 0) (u := (.slice ab6 12 cb6)) (t5.trans (b6.mono t5.size)) geD) geD
    clear D_5 o_5 n_5 t5 b6 xd D_q D_s d_5
    have Dx0 := cell2_0 D_6
    have Dx1 := cell2_1 D_6
    go_wp2_with fail
    generalize hWg : (World.setCell (World.setCell w6 ⟨w4.heap.size, 0, none⟩ (.slice ab6 12 cb6)) ⟨w4.heap.size, 1, none⟩ (.slice ac6 ln.length cc6)) = w6g at *
    clear hWg
    refine (Mod_some p0 ((ln.length : Int) + 1) _ hp0 (by omega) (by omega)).mono ?_
    rintro e w1x ⟨k, hk, rfl, rfl⟩
    have hk' : k ≤ ln.length := by omega
    clear hk
    clear Df0 Df1 Dq0 Dq1 Dx0 Dx1
    go_upto_region 13 with (fail)
    go_cut [16] from 76 to 81 (fun u W => ∃ (wl : List (List UInt8)) (wa : Option Addr) (wc' : Nat), u = .slice wa wl.length wc' ∧ wl = lo ++ ln.take k ∧ Txt W w6g.heap.size (.slice wa wl.length wc') wl ∧ Below w6g.heap.size w6g W)
    case first =>
      obtain ⟨pa, pc, hsl, rp⟩ := part_toL n_6 rfl k hk' _ rfl
      have RP := Lib.hid rp
      have O1 := Lib.hid o_6
      clear rp o_6 n_6 D_6 d_6 t6
      go_region_held3 (fun _ => True) (exact trivial)
        (first
        | (go_at_call 44; refine (OwnTexts_any lo _ _ O1.out.drew (by omega)).mono ?_; rintro e u1 ⟨ad1, c1, rfl, tx1, y1⟩
           have TX := Lib.hid tx1; have RP1 := Lib.hid (RP.out.drew.below y1); have Y1 := Lib.hid ((Below.refl _ w6g).drew.trans y1))
        | (refine step_app_txts (by rfl) (by rfl) w6g.heap.size (by rfl) TX.out (by rfl) RP1.out (by omega) Y1.out.size ?_; intro v' u2 tv b2 gr
           have Y2 := Lib.hid (Y1.out.trans b2)))
      all_goals
        go_wp2_with fail
        go_meet
        obtain ⟨wa, wc', rfl⟩ := tv.slice
        exact ⟨lo ++ ln.take k, wa, wc', rfl, rfl, tv, Y2.out⟩
    case rest =>
      obtain ⟨w7, rfl⟩ : ∃ w7, w7 = wc := ⟨wc, rfl⟩
      obtain ⟨wl, wa, wk, rfl, hwl, x_7, z7⟩ := hcut
      have hgw := z7.size
      have G0 := Lib.hid (And.intro D_6 (And.intro d_6 (And.intro t6 z7)))
      have o_7 := o_6.below z7
      have n_7 := n_6.below z7
      have D_7 := heap_below D_6 z7
      have d_7 := d_6.below z7
      have t7 := t6.trans (z7.mono t6.size)
      clear o_6 n_6 D_6 d_6 t6 z7
      have hws : ∀ x ∈ wl, 1 ≤ x.length ∧ x.length ≤ 40 := by
        intro x hx
        rw [hwl] at hx
        rcases List.mem_append.1 hx with h | h
        · exact hso.out x h
        · exact hsn.out x (List.mem_of_mem_take h)
      have hwn : wl.length ≤ 9 := by rw [hwl, List.length_append, List.length_take]; omega
      have HWl := Lib.hid hwl
      have HWs := Lib.hid hws
      clear hwl hws
      by_cases hkl : k < ln.length
      · have hkl' : decide ((k : Int) < ln.length) = true := by simp; omega
        obtain ⟨na, rfl, lx⟩ := step_at n_7 hkl
        have hs4 := (hsn.out _ (List.getElem_mem hkl)).2
        obtain ⟨y, hy⟩ : ∃ y, y = ln[k] := ⟨_, rfl⟩
        rw [← hy] at lx hs4
        have hy' := Lib.hid hy
        clear hy
        go_wp2_with fail
        refine (Mod_some t0 ((y.length : Int) + 10 + 1) _ ht0 (by omega) (by omega)).mono ?_
        rintro e w1y ⟨m, hm, rfl, rfl⟩
        by_cases hmy : m = y.length + 10
        · subst hmy
          have hmc : (((y.length + 10 : Nat)) : Int) = (y.length : Int) + 10 := by omega
          rw [hmc]
          have hmy' : ((y.length : Int) + 10 == (y.length : Int) + 10) = true := by simp
          clear hm
          go_wp2_with (at_builtin; refine app_str (n := y) rfl rfl w6g.heap.size rfl x_7 (by simp [go_sem]) (by omega) hgw ?_; intro g cap w8 t8 b8 hg8 hgr8)
          clear D_7 d_7 t7
          obtain ⟨D_q, d_q, t_q, z_q⟩ := G0.out
          have z8 := z_q.trans b8
          have D_7 := heap_below D_q z8
          have d_7 := d_q.below z8
          have t7 := t_q.trans (z8.mono t_q.size)
          clear D_q d_q t_q z_q z8
          obtain ⟨wl2, hwl2⟩ : ∃ x, x = wl ++ [y] := ⟨_, rfl⟩
          have e2 : wl.length + 1 = wl2.length := by rw [hwl2, List.length_append]; rfl
          obtain ⟨ga, hga⟩ : ∃ ga : Option Addr, ga = some ⟨g, 0, none⟩ := ⟨_, rfl⟩
          rw [e2, ← hga] at t8 ⊢
          clear hga
          rw [← hwl2] at t8
          have HWs2 := Lib.hid (show ∀ x ∈ wl2, 1 ≤ x.length ∧ x.length ≤ 40 from fun x hx => by
            rw [hwl2] at hx
            rcases List.mem_append.1 hx with h | h
            · exact HWs.out x h
            · rw [List.mem_singleton.1 h, hy'.out]; exact hsn.out _ (List.getElem_mem hkl))
          have HWl2 := Lib.hid (show wl2 = lo ++ ln.take k ++ [ln[k]] by rw [hwl2, HWl.out, hy'.out])
          have hwn2 : wl2.length ≤ 10 := by omega
          have r_7 := Row.of_own t8
          clear e2 hwl2 x_7 t8
          have hsz := sizeJ_bound wl2 HWs2.out
          have HCr := Lib.hid (fun v W h => HC.out k (y.length + 10) wl2 (Or.inr (Or.inr ⟨hkl, by rw [← hy'.out], HWl2.out⟩)) v W h)
          rw [hmc] at HCr
          have HRp := Lib.hid (fun D v vl W (hh : DiskIs W D v ∧ Row W 1 vl wl2.length (strVals wl2) ∧ Tab W ∧ replayJ D (2, 8) = (wl2, sizeJ wl2, 0)) => replays_any D v vl wl2 (sizeJ wl2) W hh.1 hh.2.1 hh.2.2.1 hh.2.2.2 (by omega))
          obtain ⟨A, hA⟩ : ∃ A, A = sizeJ wl2 := ⟨_, rfl⟩
          rw [← hA] at HCr HRp
          have hA4 : A ≤ 500 := by omega
          have hA' := Lib.hid hA
          have D0 := Lib.hid D_7
          have d0 := Lib.hid d_7
          have T0 := Lib.hid t7
          have R0 := Lib.hid r_7
          clear hsz hA HC D_7 d_7 t7 r_7
          go_wp2
          go_loopw [18, 19] (fun z i wr => ∃ j : Nat, i = .int .i64 (j : Int) ∧ j ≤ wl2.length ∧ z = .int .i64 ((sizeJ (wl2.take j) : Nat) : Int) ∧ w8 = wr) (fun _ i _ => wl2.length - (intOf i).toNat)
          case atStart => exact ⟨0, rfl, Nat.zero_le _, rfl, rfl⟩
          case round =>
            obtain ⟨j, rfl, hj, rfl, rfl⟩ := hrel
            by_cases hlt : j < wl2.length
            · have hlt' : decide ((j : Int) < wl2.length) = true := by simp; omega
              obtain ⟨la, hla, lx⟩ := R0.out.cell (strVals_at wl2 j hlt)
              cases hla
              have hs1 := sizeJ_take_succ wl2 j hlt
              have hs2 := sizeJ_take_le wl2 (j + 1)
              have hs4 := (HWs2.out _ (List.getElem_mem hlt)).2
              obtain ⟨x, hx⟩ : ∃ x, x = wl2[j] := ⟨_, rfl⟩
              rw [← hx] at lx hs1 hs4
              obtain ⟨z0, hz0⟩ : ∃ z, z = sizeJ (wl2.take j) := ⟨_, rfl⟩
              rw [← hz0] at hs1 ⊢
              rw [← hA'.out] at hs2
              have hs1' := Lib.hid hs1
              have hzb0 : z0 ≤ 500 := by omega
              clear hs1 hs2 hz0 hx
              go_wp2
              exact ⟨⟨j + 1, by go_num, hlt, congrArg (Value.int .i64) (by rw [hs1'.out]; omega), trivial⟩, by simp [intOf]; omega⟩
            · obtain rfl : j = wl2.length := by omega
              have hlt' : decide ((wl2.length : Int) < wl2.length) = false := by simp
              rw [List.take_length, ← hA'.out]
              have Dx0 := cell2_0 D0.out
              have Dx1 := cell2_1 D0.out
              go_wp2_with fail
              refine (HCr.out _ _ d0.out).mono ?_
              rintro e wz ⟨XD, abz, cbz, acz, ccz, rfl, cz, hex, bz⟩
              have az := Go.Joins.below_alloc1 wz (.cells #[.slice abz 12 cbz, .slice acz 0 ccz] 25)
              have Cz := World.alloc_heap_new wz (.cells #[.slice abz 12 cbz, .slice acz 0 ccz] 25)
              have tz := T0.out.trans (bz.mono T0.out.size)
              have tz2 := tz.trans (az.mono tz.size)
              have rz := (R0.out.below bz).below az
              have cz2 := cz.below az
              have Cx0 := cell2_0 Cz
              have Cx1 := cell2_1 Cz
              clear Dx0 Dx1
              go_wp2_with fail
              refine (HRp.out XD _ _ _ ⟨cz2, rz, hT.out.below tz2, hex.2.2⟩).mono ?_
              rintro e wy ⟨rfl, by1⟩
              go_wp2
              go_ret
              exact ⟨rfl, tz2.trans (by1.mono tz2.size)⟩
        · have hmy' : ((m : Int) == (y.length : Int) + 10) = false := by rw [beq_eq_false_iff_ne]; omega
          have hcx : m < y.length + 10 := by omega
          have r_7 := Row.of_own x_7
          have hsz := sizeJ_bound wl HWs.out
          have HCr := Lib.hid (fun v W h => HC.out k m wl (Or.inr (Or.inl ⟨hkl, by rw [← hy'.out]; exact hcx, HWl.out⟩)) v W h)
          have HRp := Lib.hid (fun D v vl W (hh : DiskIs W D v ∧ Row W 1 vl wl.length (strVals wl) ∧ Tab W ∧ replayJ D (2, 8) = (wl, sizeJ wl, 0)) => replays_any D v vl wl (sizeJ wl) W hh.1 hh.2.1 hh.2.2.1 hh.2.2.2 (by omega))
          obtain ⟨A, hA⟩ : ∃ A, A = sizeJ wl := ⟨_, rfl⟩
          rw [← hA] at HCr HRp
          have hA4 : A ≤ 500 := by omega
          have hA' := Lib.hid hA
          have D0 := Lib.hid D_7
          have d0 := Lib.hid d_7
          have T0 := Lib.hid t7
          have R0 := Lib.hid r_7
          clear hsz hA HC D_7 d_7 t7 r_7
          go_wp2
          go_loopw [18, 19] (fun z i wr => ∃ j : Nat, i = .int .i64 (j : Int) ∧ j ≤ wl.length ∧ z = .int .i64 ((sizeJ (wl.take j) : Nat) : Int) ∧ w7 = wr) (fun _ i _ => wl.length - (intOf i).toNat)
          case atStart => exact ⟨0, rfl, Nat.zero_le _, rfl, rfl⟩
          case round =>
            obtain ⟨j, rfl, hj, rfl, rfl⟩ := hrel
            by_cases hlt : j < wl.length
            · have hlt' : decide ((j : Int) < wl.length) = true := by simp; omega
              obtain ⟨la, hla, lx⟩ := R0.out.cell (strVals_at wl j hlt)
              cases hla
              have hs1 := sizeJ_take_succ wl j hlt
              have hs2 := sizeJ_take_le wl (j + 1)
              have hs4 := (HWs.out _ (List.getElem_mem hlt)).2
              obtain ⟨x, hx⟩ : ∃ x, x = wl[j] := ⟨_, rfl⟩
              rw [← hx] at lx hs1 hs4
              obtain ⟨z0, hz0⟩ : ∃ z, z = sizeJ (wl.take j) := ⟨_, rfl⟩
              rw [← hz0] at hs1 ⊢
              rw [← hA'.out] at hs2
              have hs1' := Lib.hid hs1
              have hzb0 : z0 ≤ 500 := by omega
              clear hs1 hs2 hz0 hx
              go_wp2
              exact ⟨⟨j + 1, by go_num, hlt, congrArg (Value.int .i64) (by rw [hs1'.out]; omega), trivial⟩, by simp [intOf]; omega⟩
            · obtain rfl : j = wl.length := by omega
              have hlt' : decide ((wl.length : Int) < wl.length) = false := by simp
              rw [List.take_length, ← hA'.out]
              have Dx0 := cell2_0 D0.out
              have Dx1 := cell2_1 D0.out
              go_wp2_with fail
              refine (HCr.out _ _ d0.out).mono ?_
              rintro e wz ⟨XD, abz, cbz, acz, ccz, rfl, cz, hex, bz⟩
              have az := Go.Joins.below_alloc1 wz (.cells #[.slice abz 12 cbz, .slice acz 0 ccz] 25)
              have Cz := World.alloc_heap_new wz (.cells #[.slice abz 12 cbz, .slice acz 0 ccz] 25)
              have tz := T0.out.trans (bz.mono T0.out.size)
              have tz2 := tz.trans (az.mono tz.size)
              have rz := (R0.out.below bz).below az
              have cz2 := cz.below az
              have Cx0 := cell2_0 Cz
              have Cx1 := cell2_1 Cz
              clear Dx0 Dx1
              go_wp2_with fail
              refine (HRp.out XD _ _ _ ⟨cz2, rz, hT.out.below tz2, hex.2.2⟩).mono ?_
              rintro e wy ⟨rfl, by1⟩
              go_wp2
              go_ret
              exact ⟨rfl, tz2.trans (by1.mono tz2.size)⟩
      · have hkl' : decide ((k : Int) < ln.length) = false := by simp; omega
        go_wp2_with fail
        refine (Mod_some t0 1 _ ht0 (by omega) (by omega)).mono ?_
        rintro e w1y ⟨m, hm, rfl, rfl⟩
        obtain rfl : m = 0 := by omega
        obtain rfl : k = ln.length := by omega
        have r_7 := Row.of_own x_7
        have hsz := sizeJ_bound wl HWs.out
        have HCr := Lib.hid (fun v W h => HC.out ln.length 0 wl (Or.inl ⟨rfl, rfl, HWl.out⟩) v W h)
        rw [show ((0 : Nat) : Int) = 0 from rfl] at HCr
        have HRp := Lib.hid (fun D v vl W (hh : DiskIs W D v ∧ Row W 1 vl wl.length (strVals wl) ∧ Tab W ∧ replayJ D (2, 8) = (wl, sizeJ wl, 0)) => replays_any D v vl wl (sizeJ wl) W hh.1 hh.2.1 hh.2.2.1 hh.2.2.2 (by omega))
        obtain ⟨A, hA⟩ : ∃ A, A = sizeJ wl := ⟨_, rfl⟩
        rw [← hA] at HCr HRp
        have hA4 : A ≤ 500 := by omega
        have hA' := Lib.hid hA
        have D0 := Lib.hid D_7
        have d0 := Lib.hid d_7
        have T0 := Lib.hid t7
        have R0 := Lib.hid r_7
        clear hsz hA HC D_7 d_7 t7 r_7
        go_wp2
        go_loopw [18, 19] (fun z i wr => ∃ j : Nat, i = .int .i64 (j : Int) ∧ j ≤ wl.length ∧ z = .int .i64 ((sizeJ (wl.take j) : Nat) : Int) ∧ w7 = wr) (fun _ i _ => wl.length - (intOf i).toNat)
        case atStart => exact ⟨0, rfl, Nat.zero_le _, rfl, rfl⟩
        case round =>
          obtain ⟨j, rfl, hj, rfl, rfl⟩ := hrel
          by_cases hlt : j < wl.length
          · have hlt' : decide ((j : Int) < wl.length) = true := by simp; omega
            obtain ⟨la, hla, lx⟩ := R0.out.cell (strVals_at wl j hlt)
            cases hla
            have hs1 := sizeJ_take_succ wl j hlt
            have hs2 := sizeJ_take_le wl (j + 1)
            have hs4 := (HWs.out _ (List.getElem_mem hlt)).2
            obtain ⟨x, hx⟩ : ∃ x, x = wl[j] := ⟨_, rfl⟩
            rw [← hx] at lx hs1 hs4
            obtain ⟨z0, hz0⟩ : ∃ z, z = sizeJ (wl.take j) := ⟨_, rfl⟩
            rw [← hz0] at hs1 ⊢
            rw [← hA'.out] at hs2
            have hs1' := Lib.hid hs1
            have hzb0 : z0 ≤ 500 := by omega
            clear hs1 hs2 hz0 hx
            go_wp2
            exact ⟨⟨j + 1, by go_num, hlt, congrArg (Value.int .i64) (by rw [hs1'.out]; omega), trivial⟩, by simp [intOf]; omega⟩
          · obtain rfl : j = wl.length := by omega
            have hlt' : decide ((wl.length : Int) < wl.length) = false := by simp
            rw [List.take_length, ← hA'.out]
            have Dx0 := cell2_0 D0.out
            have Dx1 := cell2_1 D0.out
            go_wp2_with fail
            refine (HCr.out _ _ d0.out).mono ?_
            rintro e wz ⟨XD, abz, cbz, acz, ccz, rfl, cz, hex, bz⟩
            have az := Go.Joins.below_alloc1 wz (.cells #[.slice abz 12 cbz, .slice acz 0 ccz] 25)
            have Cz := World.alloc_heap_new wz (.cells #[.slice abz 12 cbz, .slice acz 0 ccz] 25)
            have tz := T0.out.trans (bz.mono T0.out.size)
            have tz2 := tz.trans (az.mono tz.size)
            have rz := (R0.out.below bz).below az
            have cz2 := cz.below az
            have Cx0 := cell2_0 Cz
            have Cx1 := cell2_1 Cz
            clear Dx0 Dx1
            go_wp2_with fail
            refine (HRp.out XD _ _ _ ⟨cz2, rz, hT.out.below tz2, hex.2.2⟩).mono ?_
            rintro e wy ⟨rfl, by1⟩
            go_wp2
            go_ret
            exact ⟨rfl, tz2.trans (by1.mono tz2.size)⟩
end Go.Proofs.YthhghggaoljcbaaDoor
