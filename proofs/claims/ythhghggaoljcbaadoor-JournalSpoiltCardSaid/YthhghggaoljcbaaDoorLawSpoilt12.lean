/- The walk of JournalSpoilt, chapter 12 (journal). -/
import Derived.Test.YthhghggaoljcbaaDoorLawCuts12
namespace Go.Proofs.YthhghggaoljcbaaDoor
open Go.RowKit Disk11 Journal12 Sum2

theorem locate : ∀ (l : List (List UInt8)) (p : Nat), p < sizeJ l → ∃ n j, ∃ (hn : n < l.length), j < l[n].length + 10 ∧ p = sizeJ (l.take n) + j
  | [], p, h => absurd h (Nat.not_lt_zero _)
  | x :: l, p, h => by
    rw [sizeJ_cons] at h
    by_cases h1 : p < x.length + 10
    · exact ⟨0, p, by simp, h1, by show p = 0 + p; omega⟩
    · obtain ⟨n, j, hn, hj, e⟩ := locate l (p - (x.length + 10)) (by omega)
      exact ⟨n + 1, j, by simp; exact hn, hj, by rw [List.take_succ_cons, sizeJ_cons]; omega⟩
theorem u8_xor_new (c : UInt8) (m : Nat) (hm : m < 255) : ∃ b : Nat, b < 256 ∧ bits .xor .u8 (c.toNat : Int) (1 + (m : Int)) = (b : Int) ∧ c ≠ UInt8.ofNat b := by
  have h1 := c.toNat_lt
  have hx : c.toNat ^^^ (1 + m) < 256 := Nat.xor_lt_two_pow (n := 8) (by omega) (by omega)
  refine ⟨c.toNat ^^^ (1 + m), hx, ?_, fun e => ?_⟩
  · have e1 : (1 : Int) + (m : Int) = ((1 + m : Nat) : Int) := by omega
    rw [e1]
    show IntKind.u8.wrap ((BitVec.ofInt 8 (c.toNat : Int) ^^^ BitVec.ofInt 8 ((1 + m : Nat) : Int)).toNat : Int) = _
    have q1 : (BitVec.ofInt 8 (c.toNat : Int)).toNat = c.toNat := by simp
    have q2 : (BitVec.ofInt 8 ((1 + m : Nat) : Int)).toNat = 1 + m := by rw [BitVec.toNat_ofInt]; omega
    rw [BitVec.toNat_xor, q1, q2]
    have hw : ∀ n : Nat, n < 256 → IntKind.u8.wrap (n : Int) = (n : Int) := fun n hn => by simp [IntKind.wrap, IntKind.bits, IntKind.signed]; omega
    exact hw _ hx
  · have e2 := congrArg UInt8.toNat e
    rw [UInt8.toNat_ofNat', Nat.mod_eq_of_lt hx] at e2
    have e3 := congrArg (c.toNat ^^^ ·) e2
    simp only [← Nat.xor_assoc, Nat.xor_self, Nat.zero_xor] at e3
    omega
/-- A device of which a byte was changed. -/
def Spoilt (l : List (List UInt8)) (A nc : Nat) (D : Dev) : Prop := D.1.length = 12 ∧ D.2.length = nc ∧ replayJ D (2, 8) = (l, A, 0)
theorem as_spoilt {B : Nat} {w w' : World} {e : Ending} {r : Dev × Nat} {E : Dev} {l : List (List UInt8)} {A nc : Nat} (hr : r = (E, 0)) (h1 : E.1.length = 12) (h2 : E.2.length = nc) (hp : replayJ E (2, 8) = (l, A, 0)) (h : ∃ v', e = .returned (.tuple #[v', .int .i64 r.2]) ∧ DiskIs w' r.1 v' ∧ Below B w w') :
    ∃ (XD : Dev) (ab : Option Addr) (cb : Nat) (ac : Option Addr) (cc : Nat), e = .returned (.tuple #[.agg #[.slice ab 12 cb, .slice ac nc cc], .int .i64 0]) ∧ DiskIs w' XD (.agg #[.slice ab 12 cb, .slice ac nc cc]) ∧ Spoilt l A nc XD ∧ Below B w w' := by
  subst hr
  obtain ⟨v', rfl, hd, hb⟩ := h
  obtain ⟨ab, cb, ac, cc, rfl, _⟩ := hd.form
  rw [show ((E, 0) : Dev × Nat).1.1.length = 12 from h1, show ((E, 0) : Dev × Nat).1.2.length = nc from h2] at hd ⊢
  exact ⟨_, ab, cb, ac, cc, rfl, hd, ⟨h1, h2, hp⟩, hb⟩

set_option maxHeartbeats 8000000 in
set_option maxRecDepth 100000 in
theorem JournalSpoilt_any (nums : List Int) (v : Value) (p0 t0 : Int) (w : World) (hp0 : I64 p0) (ht0 : I64 t0) (hln : nums.length ≤ maxLen) (hwf : ∀ n ∈ nums, (Lit.int .i64 n).wf = true) (N_0 : Row w 1 v nums.length (nums.map fun n => .int .i64 n)) (ht : Tab w) :
    Calls Tryd.prog 7 #[v, .int .i64 p0, .int .i64 t0] w fun e w' => e = .returned (.bool true) ∧ Below w.heap.size w w' := by
  have HK := Lib.hid (fun W t => JournalKnown_any W t)
  have HM := Lib.hid (fun W h => (records_nums nums v W hln hwf h).mono (fun _ _ => as_recs))
  have HB := Lib.hid (fun W => lblank_any W)
  have HF := Lib.hid (fun W => lfield_any W)
  have hfld : ∀ W : World, (Instr.field 27 (.agg #[.int .i64 2, .int .i64 8]) 0).run Tryd.prog W = .ok (.int .i64 2) W := fun W => by kernel_rfl
  have hT := Lib.hid ht
  obtain ⟨na, nc, rfl, _⟩ := N_0.slice
  clear ht hln hwf
  go_enter Tryd.func7, Tryd.ntmps7
  go_wp2_with fail
  refine (HK.out _ hT.out).mono ?_
  rintro e w1 ⟨rfl, b1⟩
  have N_1 := N_0.below b1
  have t1 := b1
  clear N_0 b1
  go_wp2_with fail
  refine (HM.out _ N_1).mono ?_
  rintro e w2 ⟨l, ad, c, rfl, ⟨hlen, hsm⟩, r_2, b2⟩
  have N_2 := N_1.below b2
  have t2 := t1.trans (b2.mono t1.size)
  clear N_1 t1 b2
  clear N_2
  have hl8 : l.length ≤ 8 := by omega
  have hlj := onZero_laid hsm hl8
  have hzb := sizeJ_bound l hsm
  have hz4 : sizeJ l ≤ 400 := by omega
  have HLd := Lib.hid (fun v vl W h r t => llaid_zero l v vl W h r t hsm hl8)
  have hsmall := Lib.hid hsm
  obtain ⟨Z, hZ⟩ : ∃ Z, Z = sizeJ l := ⟨_, rfl⟩
  rw [← hZ] at HLd hz4
  have hZ' := Lib.hid hZ
  clear hzb hlen hsm hZ
  go_wp2_with fail
  refine (HB.out _).mono ?_
  rintro e w3 ⟨ab, cb, ac, cc, rfl, z_3, b3⟩
  have r_3 := r_2.below b3
  have t3 := t2.trans (b3.mono t2.size)
  clear r_2 t2 b3
  go_wp2_with fail
  refine (HLd.out _ _ _ z_3 r_3 (hT.out.below t3)).mono ?_
  rintro e w4 ⟨ab1, cb1, ac1, cc1, rfl, dr_4, b4⟩
  have a4 := Go.Joins.below_alloc1 w4 (.cells #[.slice ab1 12 cb1, .slice ac1 l.length cc1] 25)
  have D_4 := World.alloc_heap_new w4 (.cells #[.slice ab1 12 cb1, .slice ac1 l.length cc1] 25)
  have c4 := b4.trans (a4.mono b4.size)
  have geD := (t3.trans (b4.mono t3.size)).size
  have r_4 := r_3.below c4
  have z_4 := z_3.below c4
  have t4 := t3.trans (c4.mono t3.size)
  have d_4 := dr_4.below a4
  clear r_3 z_3 t3 dr_4 a4 b4 c4
  clear z_4
  by_cases hz0 : Z = 0
  · have hz0' : ((Z : Int) == 0) = true := by simp; exact hz0
    have hl0 : ((l.length : Int) == 0) = true := by
      have := size_ge l
      rw [beq_iff_eq]; rw [← hZ'.out] at this; omega
    clear hz0
    go_wp2
    go_ret
    exact ⟨rfl, t4⟩
  have hz0' : ((Z : Int) == 0) = false := by rw [beq_eq_false_iff_ne]; omega
  go_wp2_with fail
  generalize hWg : (World.alloc w4 (.cells #[.slice ab1 12 cb1, .slice ac1 l.length cc1] 25)) = w4g at *
  clear hWg
  refine (Mod_some p0 (Z : Int) _ hp0 (by omega) (by omega)).mono ?_
  rintro e w1x ⟨q0, hq, rfl, rfl⟩
  obtain ⟨n, j, hnl, hj, hqe⟩ := locate l q0 (by rw [← hZ'.out]; omega)
  obtain ⟨c0, k1, k2⟩ := laid_byte hlj n j hnl hj
  have hq0 : q0 ≤ 400 := by omega
  have hcl : (onZero l).2.length = l.length := putJ_len 2 (zeroD 12) [] l ▸ Nat.zero_add _
  obtain ⟨A, hA⟩ : ∃ A, A = sizeJ (l.take n) := ⟨_, rfl⟩
  have hs1 := sizeJ_take_succ l n hnl
  have HRd := Lib.hid (fun v W h => (Read_any (onZero l) v ((64 * 2 + (sizeJ (l.take n) + j) : Nat) : Int) 1 W h).mono (fun _ _ => ret_two (.string ⟨[c0].toArray⟩) (.int .i64 0) (by rw [k1]) (by rw [k1]; rfl)))
  have HWr := Lib.hid (fun (b : Nat) (hb : c0 ≠ UInt8.ofNat b) v W h => (Write_any (onZero l) v ((64 * 2 + (sizeJ (l.take n) + j) : Nat) : Int) [UInt8.ofNat b] W h).mono (fun _ _ => as_spoilt (nc := l.length + 1) (spoilt_replay hlj (by rw [hcl]; omega) n j c0 (UInt8.ofNat b) hnl hj k2 hb).1 rfl (by show ((onZero l).2 ++ [_]).length = _; rw [List.length_append, hcl]; rfl) (spoilt_replay hlj (by rw [hcl]; omega) n j c0 (UInt8.ofNat b) hnl hj k2 hb).2))
  rw [← hA, show 64 * 2 + (A + j) = 128 + q0 by omega, show ((128 + q0 : Nat) : Int) = 128 + (q0 : Int) by omega] at HRd HWr
  have HRp := Lib.hid (fun D v vl W (hh : DiskIs W D v ∧ Row W 1 vl (l.take n).length (strVals (l.take n)) ∧ Tab W ∧ replayJ D (2, 8) = (l.take n, A, 0)) => replays_any D v vl (l.take n) A W hh.1 hh.2.1 hh.2.2.1 hh.2.2.2 (by rw [List.length_take]; omega))
  have HMd := Lib.hid (fun W => Mod_below t0 255 W ht0 (by decide) (by decide))
  have hA' := Lib.hid hA
  have hnx : ∀ k (hk : k < l.length), k < n → sizeJ (l.take k) + (l[k].length + 10) ≤ q0 := fun k hk hkn => by
    have h1 := sizeJ_take_succ l k hk
    have h2 := sizeJ_take_le (l.take n) (k + 1)
    rw [List.take_take, Nat.min_eq_left (by omega)] at h2
    omega
  have hst : sizeJ (l.take n) + (l[n].length + 10) > q0 := by omega
  have hNX := Lib.hid hnx
  have hST := Lib.hid hst
  have wr0 : IntKind.i64.wrap 128 = 128 := by rw [IntKind.wrap_i64]; omega
  have wr1 : IntKind.i64.wrap (128 + (q0 : Int)) = 128 + (q0 : Int) := by rw [IntKind.wrap_i64]; omega
  clear hq hlj k1 k2 hcl hA hs1 hnx hst hqe hj hz4 hz0'
  have x0_4 := cell2_0 D_4
  have x1_4 := cell2_1 D_4
  have HD4 := Lib.hid d_4
  have HT4 := Lib.hid t4
  go_wp2_with fail
  go_region_held3 (fun V => V.cell? ⟨w4.heap.size, 0, none⟩ = some (.slice ab1 12 cb1) ∧ V.cell? ⟨w4.heap.size, 1, none⟩ = some (.slice ac1 l.length cc1))
    (first | exact ⟨x0_4, x1_4⟩ | exact ⟨o0_4, o1_4⟩ | exact ⟨p0_4, p1_4⟩ | go_keep)
    (first
    | (go_at_call 39; refine (HF.out _).mono ?_; rintro e u4 ⟨rfl, y4⟩
       have o0_4 := cell_below y4 (show (World.drew w4g).cell? _ = _ from x0_4)
       have o1_4 := cell_below y4 (show (World.drew w4g).cell? _ = _ from x1_4)
       have V4 := Lib.hid ((Below.refl _ w4g).drew.trans y4))
    | (go_at_call 41; refine (HRd.out _ _ (HD4.out.below V4.out)).mono ?_; rintro e w5 ⟨rfl, b5⟩
       have p0_4 := cell_below b5 o0_4
       have p1_4 := cell_below b5 o1_4
       have Z4 := Lib.hid (V4.out.trans (b5.mono V4.out.size))))
  have z4 := Z4.out
  have r_5 := r_4.below z4
  have D_5 := heap_below D_4 z4
  have d_5 := d_4.below z4
  have t5 := t4.trans (z4.mono t4.size)
  clear r_4 D_4 d_4 t4 x0_4 x1_4 o0_4 o1_4 p0_4 p1_4 HD4 HT4 V4 Z4 z4 y4 b5
  have x0 := cell2_0 D_5
  have x1 := cell2_1 D_5
  have f0 := frozen2 D_5 0
  have f1 := frozen2 D_5 1
  have D0 := Lib.hid D_5
  have d0 := Lib.hid d_5
  have R0 := Lib.hid r_5
  have T0 := Lib.hid t5
  have hc0 := c0.toNat_lt
  have hg0 : (({ data := #[c0] } : ByteArray)[0]'(by show 0 < 1; decide)) = c0 := rfl
  go_upto_region 10 with (fail)
  go_cut [14] from 62 to 80 (fun a W => a = .int .i64 0 ∧ ∃ (XD : Dev) (ab3 ac3 : Option Addr) (cb3 cc3 : Nat), W.heap[w4.heap.size]? = some (.cells #[.slice ab3 12 cb3, .slice ac3 (l.length + 1) cc3] 25 (0, 0)) ∧ DiskIs W XD (.agg #[.slice ab3 12 cb3, .slice ac3 (l.length + 1) cc3]) ∧ Hid (Spoilt (l.take n) A (l.length + 1) XD) ∧ Row W 1 (.slice ad l.length c) l.length (strVals l) ∧ Below w.heap.size w W)
  case first =>
    go_region_with (first
      | (go_at_call 39; refine (HF.out _).mono ?_; rintro e u1 ⟨rfl, y1⟩
         have o0 := cell_below y1 (show (World.drew w5).cell? _ = _ from x0); have o1 := cell_below y1 (show (World.drew w5).cell? _ = _ from x1)
         have T1 := Lib.hid (T0.out.drew.trans ((show Below (World.drew w5).heap.size (World.drew w5) u1 from y1).mono T0.out.size))
         have D1 := Lib.hid (heap_below (show (World.drew w5).heap[w4.heap.size]? = _ from D0.out) y1)
         have d1 := Lib.hid (d0.out.drew.below y1); have R1 := Lib.hid (R0.out.drew.below y1))
      | (go_at_call 40; refine (HMd.out _).mono ?_; rintro e u2 ⟨m, hm, rfl, y2⟩
         obtain ⟨b, hb, hbx, hbc⟩ := u8_xor_new c0 m hm
         have wm : IntKind.i64.wrap (1 + (m : Int)) = 1 + (m : Int) := by rw [IntKind.wrap_i64]; omega
         have wm8 : IntKind.u8.wrap (1 + (m : Int)) = 1 + (m : Int) := by simp [IntKind.wrap, IntKind.bits, IntKind.signed]; omega
         have p0 := cell_below y2 o0; have p1 := cell_below y2 o1
         have a2 := Go.Joins.below_alloc1 u2 (.cells #[.int .u8 (b : Int)] 5)
         have r0 := cell_below a2 p0; have r1 := cell_below a2 p1
         have hcv := one_string_l b hb u2
         have y3 := y2.trans (a2.mono y2.size)
         have T3 := Lib.hid (T1.out.trans (y3.mono T1.out.size))
         have D3 := Lib.hid (heap_below D1.out y3); have d3 := Lib.hid (d1.out.below y3); have R3 := Lib.hid (R1.out.below y3); have hbc' := Lib.hid hbc)
      | (go_at_call 42; refine (HWr.out b hbc'.out _ _ d3.out).mono ?_; rintro e u4 ⟨XD, ab3, cb3, ac3, cc3, rfl, xd, xr, y4⟩
         have T4 := Lib.hid (T3.out.trans (y4.mono T3.out.size))
         have D4 := heap_below D3.out y4; have R4 := Lib.hid (R3.out.below y4)
         have q0' := cell2_0 D4; have q1' := cell2_1 D4; have q2' := frozen2 D4 0; have q3' := frozen2 D4 1))
    all_goals
      go_wp2_with fail
      go_meet
      exact ⟨rfl, XD, _, _, _, _, set_two D4, disk_apart (disk_apart xd D4) (Lib.heap_setCell_same (i := 0) D4 _), Lib.hid xr, Row.apart (Row.apart R4.out D4 (strVals_no _)) (Lib.heap_setCell_same (i := 0) D4 _) (strVals_no _), below_set (below_set T4.out geD) geD⟩
  case rest =>
    obtain ⟨rfl, XD, ab3, ac3, cb3, cc3, D5, d5, xr, r5, t5⟩ := hcut
    clear x0 x1 f0 f1 D0 d0 R0 T0
    obtain ⟨w5, rfl⟩ : ∃ w5, w5 = wc := ⟨wc, rfl⟩
    go_wp2
    go_loopw [15, 16] (fun i fr wr => ∃ k : Nat, i = .int .i64 (k : Int) ∧ k ≤ n ∧ fr = .int .i64 ((sizeJ (l.take k) : Nat) : Int) ∧ wr = w5) (fun i _ _ => n + 1 - (intOf i).toNat)
    case atStart => exact ⟨0, rfl, Nat.zero_le _, rfl, rfl⟩
    case round =>
      obtain ⟨k, rfl, hk, rfl, rfl⟩ := hrel
      have hkl : k < l.length := by omega
      have hlt' : decide ((k : Int) < l.length) = true := by simp; omega
      obtain ⟨la, rfl, lx⟩ := step_at r5 hkl
      have hs1 := sizeJ_take_succ l k hkl
      have hs2 := sizeJ_take_le l (k + 1)
      have hs3 := sizeJ_bound l hsmall.out
      have hs4 := (hsmall.out _ (List.getElem_mem hkl)).2
      by_cases hlt : k < n
      · have hnx := hNX.out k hkl hlt
        obtain ⟨x, hx⟩ : ∃ x, x = l[k] := ⟨_, rfl⟩
        rw [← hx] at lx hs1 hs4 hnx
        obtain ⟨z0, hz0⟩ : ∃ z, z = sizeJ (l.take k) := ⟨_, rfl⟩
        rw [← hz0] at hs1 hnx ⊢
        have hs1' := Lib.hid hs1
        have hzb0 : z0 ≤ 400 := by omega
        have hc1 : decide ((z0 : Int) + (x.length : Int) + 10 ≤ (q0 : Int)) = true := by simp; omega
        clear hs1 hs2 hs3 hz0 hx D5 d5 t5
        go_wp2
        exact ⟨⟨k + 1, by go_num, hlt, congrArg (Value.int .i64) (by rw [hs1'.out]; omega), trivial⟩, by simp [intOf]; omega⟩
      · obtain rfl : k = n := by omega
        have hst := hST.out
        obtain ⟨x, hx⟩ : ∃ x, x = l[k] := ⟨_, rfl⟩
        rw [← hx] at lx hs1 hs4 hst
        rw [← hA'.out] at hst hs1 ⊢
        have hzb0 : A ≤ 400 := by omega
        have hc1 : decide ((A : Int) + (x.length : Int) + 10 ≤ (q0 : Int)) = false := by simp; omega
        obtain ⟨pa, pc, hsl, rp⟩ := part_to r5 k (by omega)
        have s0 := cell2_0 D5
        have s1 := cell2_1 D5
        have X0 := Lib.hid d5
        have R0 := Lib.hid rp
        have T0 := Lib.hid t5
        clear hs1 hs2 hs3 hx hst D5 d5 t5 rp
        go_upto_region 15 with (fail)
        go_region_held3 (fun V => V.cell? ⟨w4.heap.size, 0, none⟩ = some (.slice ab3 12 cb3) ∧ V.cell? ⟨w4.heap.size, 1, none⟩ = some (.slice ac3 (l.length + 1) cc3))
          (first | exact ⟨s0, s1⟩ | exact ⟨o0, o1⟩ | go_keep)
          (first
          | (go_at_call 38; refine (HRp.out _ _ _ _ (by exact ⟨X0.out.drew, R0.out.drew, hT.out.below T0.out.drew, xr.out.2.2⟩)).mono ?_; rintro e u1 ⟨rfl, y1⟩
             have o0 := cell_below y1 (show (World.drew _).cell? _ = _ from s0); have o1 := cell_below y1 (show (World.drew _).cell? _ = _ from s1)
             have T1 := Lib.hid (T0.out.drew.trans ((show Below (World.drew _).heap.size (World.drew _) u1 from y1).mono T0.out.size))))
        go_wp2
        go_ret
        exact ⟨rfl, T1.out⟩
end Go.Proofs.YthhghggaoljcbaaDoor
