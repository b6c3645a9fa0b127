/- The walk of JournalBack, chapter 12 (journal). -/
import Derived.Test.YthhghggaoljcbaaDoorLawKnown12
import Derived.Test.YthhghggaoljcbaaDoorJournalU
namespace Go.Proofs.YthhghggaoljcbaaDoor
open Go.RowKit Disk11 Journal12 Sum2

theorem sizeJ_bound : ∀ (l : List (List UInt8)), (∀ x ∈ l, 1 ≤ x.length ∧ x.length ≤ 40) → sizeJ l ≤ 50 * l.length
  | [], _ => Nat.zero_le _
  | x :: l, h => by
    have h1 := sizeJ_bound l (fun y hy => h y (List.mem_cons_of_mem _ hy))
    have h2 := (h x List.mem_cons_self).2
    rw [sizeJ_cons, List.length_cons]; omega
theorem small40 {l : List (List UInt8)} (h : ∀ x ∈ l, 1 ≤ x.length ∧ x.length ≤ 40) : SmallJ l := fun x hx => ⟨(h x hx).1, by have := (h x hx).2; omega⟩
theorem offsJ_get : ∀ (a : Nat) (l : List (List UInt8)) (k : Nat), k < l.length → (offsJ a l)[k]? = some (a + sizeJ (l.take k))
  | a, x :: l, 0, _ => rfl
  | a, x :: l, k + 1, h => by
    unfold offsJ
    rw [List.getElem?_cons_succ, offsJ_get _ l k (by simpa using h), List.take_succ_cons, sizeJ_cons]
    congr 1; omega
theorem intVals_at (l : List Nat) (i : Nat) (z : Nat) (h : l[i]? = some z) : (intVals l)[i]? = some (.int .i64 (z : Int)) := by rw [intVals_get, h]; rfl
/-- Records laid onto the blank device. -/
def onZero (l : List (List UInt8)) : Dev := putJ 2 (zeroD 12) [] l
theorem onZero_laid {l : List (List UInt8)} (h : ∀ x ∈ l, 1 ≤ x.length ∧ x.length ≤ 40) (hn : l.length ≤ 8) : LaidJ 2 8 (onZero l) l :=
  laid_put l (zeroD_laid 12 2 8 (by decide) (by decide) (by decide) (by decide)) (small40 h) (by have := sizeJ_bound l h; show sizeJ l ≤ 512; omega) (by show 0 + l.length ≤ 1000; omega)
theorem llaid_zero (l : List (List UInt8)) (v vl : Value) (w : World) (h : DiskIs w (zeroD 12) v) (hl : Row w 1 vl l.length (strVals l)) (ht : Tab w) (hs : ∀ x ∈ l, 1 ≤ x.length ∧ x.length ≤ 40) (hn : l.length ≤ 8) :
    Calls Tryd.prog 36 #[v, .int .i64 0, vl] w fun e w' => ∃ ab cb ac cc, e = .returned (.tuple #[.agg #[.slice ab 12 cb, .slice ac l.length cc], .int .i64 (sizeJ l : Nat), .bool true]) ∧ DiskIs w' (onZero l) (.agg #[.slice ab 12 cb, .slice ac l.length cc]) ∧ Below w.heap.size w w' := by
  have h1 := llaid_any (zeroD 12) v vl [] l w h hl ht (zeroD_laid 12 2 8 (by decide) (by decide) (by decide) (by decide)) (small40 hs) (by have := sizeJ_bound l hs; show sizeJ l ≤ 512; omega) (by show 0 + l.length ≤ 900; omega)
  rw [show ((sizeJ [] : Nat) : Int) = 0 from rfl] at h1
  refine h1.mono ?_
  rintro e w' ⟨ab, cb, ac, cc, rfl, hd, hb⟩
  rw [show (zeroD 12).2.length + l.length = l.length from Nat.zero_add _] at hd ⊢
  exact ⟨ab, cb, ac, cc, rfl, hd, hb⟩
theorem as_recs {w : World} {n : Nat} {e : Ending} {w' : World} (h : RecsPost w n e w') : ∃ (l : List (List UInt8)) (ad : Option Addr) (c : Nat), e = .returned (.slice ad l.length c) ∧ (l.length = min n 8 ∧ ∀ x ∈ l, 1 ≤ x.length ∧ x.length ≤ 40) ∧ Row w' 1 (.slice ad l.length c) l.length (strVals l) ∧ Below w.heap.size w w' := by
  obtain ⟨l, ad, c, h1, h2, h3, h4, h5⟩ := h
  exact ⟨l, ad, c, h1, ⟨h3, h4⟩, Row.of_own h2, h5⟩

set_option maxHeartbeats 8000000 in
set_option maxRecDepth 100000 in
theorem JournalBack_any (nums : List Int) (v : Value) (w : World) (hln : nums.length ≤ maxLen) (hwf : ∀ n ∈ nums, (Lit.int .i64 n).wf = true) (N_0 : Row w 1 v nums.length (nums.map fun n => .int .i64 n)) (ht : Tab w) :
    Calls Tryd.prog 6 #[v] w fun e w' => e = .returned (.bool true) ∧ Below w.heap.size w w' := by
  have HK := Lib.hid (fun W t => JournalKnown_any W t)
  have HM := Lib.hid (fun W h => (records_nums nums v W hln hwf h).mono (fun _ _ => as_recs))
  have HB := Lib.hid (fun W => lblank_any W)
  have HF := Lib.hid (fun W => lfield_any W)
  have hT := Lib.hid ht
  obtain ⟨na, nc, rfl, _⟩ := N_0.slice
  clear ht hln hwf
  go_enter Tryd.func6, Tryd.ntmps6
  go_wp2_with fail
  refine (HK.out _ hT.out).mono ?_
  rintro e w1 ⟨rfl, b1⟩
  have N_1 := N_0.below b1
  have t1 := b1
  clear N_0 b1
  go_wp2_with fail
  refine (HM.out _ N_1).mono ?_
  rintro e w2 ⟨l, ad, c, rfl, ⟨hlen, hsm⟩, r_2, b2⟩
  have N_2 := N_1.below b2
  have t2 := t1.trans (b2.mono t1.size)
  clear N_1 t1 b2
  clear N_2
  have hl8 : l.length ≤ 8 := by omega
  have hlj := onZero_laid hsm hl8
  have hzb := sizeJ_bound l hsm
  have hz4 : sizeJ l ≤ 400 := by omega
  obtain ⟨e1, e2, e3⟩ := replay_laid hlj
  have HLd := Lib.hid (fun v vl W h r t => llaid_zero l v vl W h r t hsm hl8)
  have HRp := Lib.hid (fun v vl W h r t => replays_any (onZero l) v vl l (sizeJ l) W h r t e1 (by omega))
  have HPl := Lib.hid (fun v W h t => (Places_any (onZero l) v 2 8 W h t).mono (fun _ _ => as_places (nl := l.length) 0 e2 rfl (offsJ_length 0 l)))
  have HCl := Lib.hid (fun v W h => (Clean_any (onZero l) v 2 8 (sizeJ l : Nat) W h).mono (fun _ _ => ret_two (.bool true) (.int .i64 0) (by rw [show cleanJ (onZero l) (2, 8) (sizeJ l : Nat) = (true, 0) from e3]) (by rw [show cleanJ (onZero l) (2, 8) (sizeJ l : Nat) = (true, 0) from e3]; rfl)))
  have hsmall := Lib.hid hsm
  obtain ⟨Z, hZ⟩ : ∃ Z, Z = sizeJ l := ⟨_, rfl⟩
  rw [← hZ] at HLd HRp HCl hz4
  have hZ' := Lib.hid hZ
  clear e1 e2 e3 hlj hzb hlen hsm hZ
  go_wp2_with fail
  refine (HB.out _).mono ?_
  rintro e w3 ⟨ab, cb, ac, cc, rfl, z_3, b3⟩
  have r_3 := r_2.below b3
  have t3 := t2.trans (b3.mono t2.size)
  clear r_2 t2 b3
  go_wp2_with fail
  refine (HLd.out _ _ _ z_3 r_3 (hT.out.below t3)).mono ?_
  rintro e w4 ⟨ab1, cb1, ac1, cc1, rfl, dr_4, b4⟩
  have a4 := Go.Joins.below_alloc1 w4 (.cells #[.slice ab1 12 cb1, .slice ac1 l.length cc1] 25)
  have D_4 := World.alloc_heap_new w4 (.cells #[.slice ab1 12 cb1, .slice ac1 l.length cc1] 25)
  have c4 := b4.trans (a4.mono b4.size)
  have r_4 := r_3.below c4
  have z_4 := z_3.below c4
  have t4 := t3.trans (c4.mono t3.size)
  have d_4 := dr_4.below a4
  clear r_3 z_3 t3 dr_4 a4 b4 c4
  clear z_4
  have Dx0 := cell2_0 D_4
  have Dx1 := cell2_1 D_4
  go_wp2_with fail
  refine (HRp.out _ _ _ d_4 r_4 (hT.out.below t4)).mono ?_
  rintro e w5 ⟨rfl, b5⟩
  have r_5 := r_4.below b5
  have D_5 := heap_below D_4 b5
  have d_5 := d_4.below b5
  have t5 := t4.trans (b5.mono t4.size)
  clear Dx0 Dx1 r_4 D_4 d_4 t4 b5
  have x0_5 := cell2_0 D_5
  have x1_5 := cell2_1 D_5
  have HD5 := Lib.hid d_5
  have HT5 := Lib.hid t5
  go_wp2_with fail
  go_region_held3 (fun V => V.cell? ⟨w4.heap.size, 0, none⟩ = some (.slice ab1 12 cb1) ∧ V.cell? ⟨w4.heap.size, 1, none⟩ = some (.slice ac1 l.length cc1))
    (first | exact ⟨x0_5, x1_5⟩ | exact ⟨o0_5, o1_5⟩ | exact ⟨p0_5, p1_5⟩ | go_keep)
    (first
    | (go_at_call 39; refine (HF.out _).mono ?_; rintro e u5 ⟨rfl, y5⟩
       have o0_5 := cell_below y5 (show (World.drew w5).cell? _ = _ from x0_5)
       have o1_5 := cell_below y5 (show (World.drew w5).cell? _ = _ from x1_5)
       have V5 := Lib.hid ((Below.refl _ w5).drew.trans y5))
    | (go_at_call 23; refine (HPl.out _ _ (HD5.out.below V5.out) (hT.out.below (HT5.out.trans (V5.out.mono HT5.out.size)))).mono ?_; rintro e w6 ⟨aP, cP, rfl, p_6, b6⟩
       have p0_5 := cell_below b6 o0_5
       have p1_5 := cell_below b6 o1_5
       have Z5 := Lib.hid (V5.out.trans (b6.mono V5.out.size))))
  have z5 := Z5.out
  have r_6 := r_5.below z5
  have D_6 := heap_below D_5 z5
  have d_6 := d_5.below z5
  have t6 := t5.trans (z5.mono t5.size)
  clear r_5 D_5 d_5 t5 x0_5 x1_5 o0_5 o1_5 p0_5 p1_5 HD5 HT5 V5 Z5 z5 y5 b6
  have x0_6 := cell2_0 D_6
  have x1_6 := cell2_1 D_6
  have HD6 := Lib.hid d_6
  have HT6 := Lib.hid t6
  go_wp2_with fail
  go_region_held3 (fun V => V.cell? ⟨w4.heap.size, 0, none⟩ = some (.slice ab1 12 cb1) ∧ V.cell? ⟨w4.heap.size, 1, none⟩ = some (.slice ac1 l.length cc1))
    (first | exact ⟨x0_6, x1_6⟩ | exact ⟨o0_6, o1_6⟩ | exact ⟨p0_6, p1_6⟩ | go_keep)
    (first
    | (go_at_call 39; refine (HF.out _).mono ?_; rintro e u6 ⟨rfl, y6⟩
       have o0_6 := cell_below y6 (show (World.drew w6).cell? _ = _ from x0_6)
       have o1_6 := cell_below y6 (show (World.drew w6).cell? _ = _ from x1_6)
       have V6 := Lib.hid ((Below.refl _ w6).drew.trans y6))
    | (go_at_call 26; refine (HCl.out _ _ (HD6.out.below V6.out)).mono ?_; rintro e w7 ⟨rfl, b7⟩
       have p0_6 := cell_below b7 o0_6
       have p1_6 := cell_below b7 o1_6
       have Z6 := Lib.hid (V6.out.trans (b7.mono V6.out.size))))
  have z6 := Z6.out
  have r_7 := r_6.below z6
  have D_7 := heap_below D_6 z6
  have d_7 := d_6.below z6
  have p_7 := p_6.below z6
  have t7 := t6.trans (z6.mono t6.size)
  clear r_6 D_6 d_6 p_6 t6 x0_6 x1_6 o0_6 o1_6 p0_6 p1_6 HD6 HT6 V6 Z6 z6 y6 b7
  have hR := Lib.hid r_7
  have hP := Lib.hid p_7
  have hB := Lib.hid t7
  clear r_7 p_7 t7 D_7 d_7
  go_wp2
  go_loopw [12, 13] (fun at_ i wr => ∃ k : Nat, i = .int .i64 (k : Int) ∧ k ≤ l.length ∧ at_ = .int .i64 ((sizeJ (l.take k) : Nat) : Int) ∧ Below w7.heap.size w7 wr) (fun _ i _ => l.length - (intOf i).toNat)
  case atStart => exact ⟨0, rfl, Nat.zero_le _, rfl, Below.refl _ _⟩
  case round =>
    obtain ⟨k, rfl, hk, rfl, hbl⟩ := hrel
    obtain ⟨Wr, rfl⟩ : ∃ W, W = wr := ⟨wr, rfl⟩
    by_cases hlt : k < l.length
    · have hlt' : decide ((k : Int) < l.length) = true := by simp; omega
      obtain ⟨la, rfl, lx⟩ := step_at (hR.out.below hbl) hlt
      obtain ⟨pa, rfl, px⟩ := (hP.out.below hbl).cell (intVals_at _ k _ (offsJ_get 0 l k hlt))
      rw [Nat.zero_add] at px
      have hs1 := sizeJ_take_succ l k hlt
      have hs2 := sizeJ_take_le l (k + 1)
      have hsk := hsmall.out _ (List.getElem_mem hlt)
      rw [← hZ'.out] at hs2
      have hsz : sizeF l[k] = (l[k].length + 10, 0) := by
        unfold sizeF; rw [if_neg (fun e => by rw [e] at hsk; simp at hsk), if_neg (by omega)]
      have HS := Lib.hid (fun W => (Size_any l[k] W (by omega)).mono (fun _ _ => ret_twoW (.int .i64 ((l[k].length : Int) + 10)) (.int .i64 0) (by rw [hsz]; exact congrArg (Value.int .i64) (by show ((l[k].length + 10 : Nat) : Int) = _; omega)) (by rw [hsz]; rfl)))
      obtain ⟨x, hx⟩ : ∃ x, x = l[k] := ⟨_, rfl⟩
      rw [← hx] at HS lx hs1 hsk
      obtain ⟨z0, hz0⟩ : ∃ z, z = sizeJ (l.take k) := ⟨_, rfl⟩
      rw [← hz0] at hs1 px ⊢
      have hs1' := Lib.hid hs1
      have hzb0 : z0 ≤ 400 := by omega
      have hxl : x.length ≤ 40 := by omega
      clear hs1 hs2 hz0 hx hsz
      go_wp2_with fail
      refine (HS.out _).mono ?_
      rintro e w' ⟨rfl, rfl⟩
      go_wp2
      exact ⟨⟨k + 1, by go_num, hlt, congrArg (Value.int .i64) (by rw [hs1'.out]; omega), hbl⟩, by simp [intOf]; omega⟩
    · obtain rfl : k = l.length := by omega
      have hlt' : decide ((l.length : Int) < l.length) = false := by simp
      rw [List.take_length, ← hZ'.out]
      go_wp2
      go_ret
      exact ⟨rfl, hB.out.trans (hbl.mono hB.out.size)⟩
end Go.Proofs.YthhghggaoljcbaaDoor
