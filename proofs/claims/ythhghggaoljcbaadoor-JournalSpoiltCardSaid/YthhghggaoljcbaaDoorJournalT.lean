/- The walks of replays and laid, chapter 12 (journal). -/
import Derived.Test.YthhghggaoljcbaaDoorJournalS
namespace Go.Proofs.YthhghggaoljcbaaDoor
open Go.RowKit Disk11 Journal12 Sum2

theorem step_at {W : World} {ad : Option Addr} {n c : Nat} {l : List (List UInt8)} (h : Row W 1 (.slice ad n c) n (strVals l)) {k : Nat} (hk : k < l.length) : ∃ a, ad = some a ∧ W.cell? (a.add k) = some (.string ⟨l[k].toArray⟩) := by
  exact h.cell (strVals_at l k hk)
set_option maxHeartbeats 4000000 in
set_option maxRecDepth 100000 in
theorem replays_any (d : Dev) (v vl : Value) (l : List (List UInt8)) (z : Nat) (w : World) (h : DiskIs w d v) (hl : Row w 1 vl l.length (strVals l)) (ht : Tab w) (hr : replayJ d (2, 8) = (l, z, 0)) (hll : l.length ≤ 1000) :
    Calls Tryd.prog 38 #[v, vl, .int .i64 (z : Int)] w fun e w' => e = .returned (.bool true) ∧ Below w.heap.size w w' := by
  have HF := Lib.hid (fun W => lfield_any W)
  have HP := Lib.hid (fun v W h t => (Replay_any d v 2 8 W h t).mono (fun _ _ => as_replay (nl := l.length) z 0 hr rfl rfl rfl))
  have HST := Lib.hid (fun v1 v2 W r1 r2 => (SameTexts_any l l v1 v2 W r1 r2 (by omega)).mono (fun _ _ => as_readT (by simp)))
  have hT := Lib.hid ht
  obtain ⟨ab, cb, ac, cc, rfl, _, _, _, _⟩ := h.form
  obtain ⟨al, cl, rfl, _⟩ := hl.slice
  have a0 := Go.Joins.below_alloc1 w (.cells #[.slice ab d.1.length cb, .slice ac d.2.length cc] 25)
  have n0 := World.alloc_heap_new w (.cells #[.slice ab d.1.length cb, .slice ac d.2.length cc] 25)
  have c0 := cell2_0 n0
  have c1 := cell2_1 n0
  have B1 := Lib.hid a0.drew
  have D1 := Lib.hid (h.below a0)
  have L1 := Lib.hid (hl.below a0)
  clear h hl ht hr a0 n0
  go_enter Tryd.func38, Tryd.ntmps38
  go_upto_region 1 with (fail)
  generalize hW1 : (w.alloc (.cells #[.slice ab d.1.length cb, .slice ac d.2.length cc] 25)) = W1 at *
  clear hW1
  go_region_held3 (fun V => V.cell? ⟨w.heap.size, 0, none⟩ = some (.slice ab d.1.length cb) ∧ V.cell? ⟨w.heap.size, 1, none⟩ = some (.slice ac d.2.length cc))
    (first | exact ⟨c0, c1⟩ | exact ⟨o0, o1⟩ | exact ⟨p0, p1⟩ | go_keep)
    (first
      | (go_at_call 39; refine (HF.out _).mono ?_; rintro e w6 ⟨rfl, b6⟩
         have o0 := cell_below b6 (show W1.drew.cell? _ = _ from c0); have o1 := cell_below b6 (show W1.drew.cell? _ = _ from c1)
         have B6 := Lib.hid (B1.out.trans (b6.mono B1.out.size))
         have D6 := Lib.hid (D1.out.drew.below b6)
         have L6 := Lib.hid (L1.out.drew.below b6))
      | (go_at_call 20; refine (HP.out _ _ D6.out (hT.out.below B6.out)).mono ?_; rintro e w7 ⟨ad, lc, rfl, r7, b7⟩
         have p0 := cell_below b7 o0; have p1 := cell_below b7 o1
         have B7 := Lib.hid (B6.out.trans (b7.mono B6.out.size))
         have L7 := Lib.hid (L6.out.below b7)
         have R7 := Lib.hid r7))
  go_wp2_with fail
  refine (HST.out _ _ _ R7.out L7.out).mono ?_
  rintro e w8 ⟨rfl, b8⟩
  go_wp2
  go_ret
  exact ⟨rfl, B7.out.trans (b8.mono B7.out.size)⟩
def LaidPost (w : World) (d : Dev) (pre l : List (List UInt8)) (e : Ending) (w' : World) : Prop :=
  ∃ ab cb ac cc, e = .returned (.tuple #[.agg #[.slice ab d.1.length cb, .slice ac (d.2.length + l.length) cc], .int .i64 (sizeJ (pre ++ l) : Nat), .bool true]) ∧ DiskIs w' (putJ 2 d pre l) (.agg #[.slice ab d.1.length cb, .slice ac (d.2.length + l.length) cc]) ∧ Below w.heap.size w w'
theorem putJ_len (f : Nat) (d : Dev) (pre l : List (List UInt8)) : (putJ f d pre l).2.length = d.2.length + l.length := by unfold putJ; rw [List.length_append, wrsJ_length]
set_option maxHeartbeats 8000000 in
set_option maxRecDepth 100000 in
theorem llaid_any (d : Dev) (v vl : Value) (pre l : List (List UInt8)) (w : World) (h : DiskIs w d v) (hl : Row w 1 vl l.length (strVals l)) (ht : Tab w) (hj : LaidJ 2 8 d pre) (hs : SmallJ l) (hz : sizeJ (pre ++ l) ≤ 512) (hc : d.2.length + l.length ≤ 900) :
    Calls Tryd.prog 36 #[v, .int .i64 (sizeJ pre : Nat), vl] w (LaidPost w d pre l) := by
  have HF := Lib.hid (fun W => lfield_any W)
  have hT := Lib.hid ht
  have hlj : ∀ k, k ≤ l.length → LaidJ 2 8 (putJ 2 d pre (l.take k)) (pre ++ l.take k) ∧ sizeJ (pre ++ l.take k) ≤ 512 := fun k hk => by
    have h1 := sizeJ_take_le l k
    rw [sizeJ_append] at hz
    have h2 : sizeJ (pre ++ l.take k) ≤ 512 := by rw [sizeJ_append]; omega
    exact ⟨laid_put (l.take k) hj (smallJ_take hs k) h2 (by rw [List.length_take]; omega), h2⟩
  have hst : ∀ k (hk : k < l.length), appendJ (putJ 2 d pre (l.take k)) (2, 8) (sizeJ (pre ++ l.take k) : Nat) l[k] = (putJ 2 d pre (l.take (k + 1)), ((sizeJ (pre ++ l.take (k + 1)) : Nat) : Int), 0) := fun k hk => by
    obtain ⟨q1, q2⟩ := hlj k (by omega)
    obtain ⟨s1, s2⟩ := hs _ (List.getElem_mem hk)
    have h3 := (hlj (k + 1) hk).2
    rw [List.take_succ_eq_append_getElem hk, ← List.append_assoc, sizeJ_snoc] at h3
    have := (laid_step q1 (by rw [putJ_len, List.length_take]; omega) s1 s2 (by omega)).1
    rw [List.take_succ_eq_append_getElem hk, ← List.append_assoc, putJ_snoc]
    exact this
  have HA := Lib.hid (fun (k : Nat) (hk : k < l.length) v W h t => (JAppend_any (putJ 2 d pre (l.take k)) v 2 8 (sizeJ (pre ++ l.take k) : Nat) l[k] W h t (by have := (hs _ (List.getElem_mem hk)).2; omega)).mono (fun _ _ => as_app (d := putJ 2 d pre (l.take (k + 1))) (nb := d.1.length) (nc := d.2.length + (k + 1)) 0 (hst k hk) rfl rfl (by rw [putJ_len, List.length_take, Nat.min_eq_left (by omega)])))
  have hll : l.length ≤ 900 := by omega
  have hzk := Lib.hid (fun k hk => (hlj k hk).2)
  clear hst hlj hj hs hz hc
  obtain ⟨ab, cb, ac, cc, rfl, _, _, _, _⟩ := h.form
  obtain ⟨al, cl, rfl, _⟩ := hl.slice
  obtain ⟨k1, k2, hsz, hbl⟩ := alloc2 w (.cells #[.slice ab d.1.length cb, .slice ac d.2.length cc] 25) (.cells #[.slice none 0 0, .slice none 0 0] 25)
  have d1 := h.below hbl
  have hL := Lib.hid hl
  clear h hl ht hsz
  go_enter Tryd.func36, Tryd.ntmps36
  go_wp2
  go_loopw [1, 9] (fun at_ i wr => ∃ (k : Nat) (ab2 ac2 : Option Addr) (cb2 cc2 : Nat), i = .int .i64 (k : Int) ∧ k ≤ l.length ∧ at_ = .int .i64 ((sizeJ (pre ++ l.take k) : Nat) : Int) ∧ wr.heap[w.heap.size]? = some (.cells #[.slice ab2 d.1.length cb2, .slice ac2 (d.2.length + k) cc2] 25 (0, 0)) ∧ DiskIs wr (putJ 2 d pre (l.take k)) (.agg #[.slice ab2 d.1.length cb2, .slice ac2 (d.2.length + k) cc2]) ∧ wr.heap[w.heap.size + 1]? = some (.cells #[.slice none 0 0, .slice none 0 0] 25 (0, 0)) ∧ Below w.heap.size w wr) (fun _ i _ => l.length - (intOf i).toNat)
  case atStart => exact ⟨0, ab, ac, cb, cc, rfl, Nat.zero_le _, by rw [List.take_zero, List.append_nil], k1, by rw [List.take_zero, putJ_nil]; exact d1, k2, hbl⟩
  case round =>
    clear k1 k2 d1 hbl
    obtain ⟨k, ab2, ac2, cb2, cc2, rfl, hk, rfl, k1, d1, k2, hbl⟩ := hrel
    obtain ⟨Wr, rfl⟩ : ∃ W, W = wr := ⟨wr, rfl⟩
    have c0 := cell2_0 k1
    have c1 := cell2_1 k1
    by_cases hlt : k < l.length
    · have hlt' : decide ((k : Int) < l.length) = true := by simp; omega
      have HAk := Lib.hid (HA.out k hlt)
      obtain ⟨la, rfl, lx⟩ := step_at (hL.out.below hbl) hlt
      obtain ⟨x, hx⟩ : ∃ x, x = l[k] := ⟨_, rfl⟩
      rw [← hx] at HAk lx
      have hz1 := hzk.out (k + 1) hlt
      have hz0 := hzk.out k hk
      obtain ⟨z0, hz0'⟩ : ∃ z, z = sizeJ (pre ++ l.take k) := ⟨_, rfl⟩
      obtain ⟨z1, hz1'⟩ : ∃ z, z = sizeJ (pre ++ l.take (k + 1)) := ⟨_, rfl⟩
      obtain ⟨E0, hE0⟩ : ∃ E, E = putJ 2 d pre (l.take k) := ⟨_, rfl⟩
      obtain ⟨E1, hE1⟩ : ∃ E, E = putJ 2 d pre (l.take (k + 1)) := ⟨_, rfl⟩
      rw [← hz0'] at hz0 HAk ⊢
      rw [← hz1'] at hz1 HAk
      rw [← hE0] at d1 HAk
      rw [← hE1] at HAk
      have HZ := Lib.hid hz1'
      have HE := Lib.hid hE1
      have B := Lib.hid hbl.drew
      have k1d := Lib.hid (show Wr.drew.heap[w.heap.size]? = _ from k1)
      have k2d := Lib.hid (show Wr.drew.heap[w.heap.size + 1]? = _ from k2)
      have dd := Lib.hid d1.drew
      clear hz1' hz0' hE0 hE1 hx hbl k1 k2 d1
      go_upto_region 5 with (fail)
      go_cut [1, 10] from 11 to 32 (fun a b W => a = .int .i64 (z1 : Int) ∧ b = .int .i64 0 ∧ ∃ (ab3 ac3 : Option Addr) (cb3 cc3 : Nat), W.heap[w.heap.size]? = some (.cells #[.slice ab3 d.1.length cb3, .slice ac3 (d.2.length + (k + 1)) cc3] 25 (0, 0)) ∧ DiskIs W E1 (.agg #[.slice ab3 d.1.length cb3, .slice ac3 (d.2.length + (k + 1)) cc3]) ∧ W.heap[w.heap.size + 1]? = some (.cells #[.slice none 0 0, .slice none 0 0] 25 (0, 0)) ∧ Below w.heap.size w W)
      case first =>
        go_region_with (first
          | (go_at_call 39; refine (HF.out _).mono ?_; rintro e w6 ⟨rfl, b6⟩
             have o0 := cell_below b6 (show Wr.drew.cell? _ = _ from c0); have o1 := cell_below b6 (show Wr.drew.cell? _ = _ from c1); have o2 := cell_below b6 (show Wr.drew.cell? _ = _ from lx)
             have B6 := Lib.hid (B.out.trans (b6.mono B.out.size))
             have D6 := Lib.hid (dd.out.below b6)
             have k16 := Lib.hid (heap_below k1d.out b6); have k26 := Lib.hid (heap_below k2d.out b6)
             have T6 := Lib.hid (show Tab w6 from hT.out.below B6.out))
          | (go_at_call 13; refine (HAk.out _ _ D6.out T6.out).mono ?_; rintro e w7 ⟨ab3, cb3, ac3, cc3, rfl, xd3, b7⟩
             have B7 := Lib.hid (B6.out.trans (b7.mono B6.out.size))
             have k17 := heap_below k16.out b7; have k27 := heap_below k26.out b7
             have p0 := cell2_0 k17; have p1 := cell2_1 k17; have p2 := frozen2 k17 0; have p3 := frozen2 k17 1))
        all_goals
          go_wp2_with fail
          go_meet
          exact ⟨rfl, rfl, _, _, _, _, set_two k17, disk_apart (disk_apart xd3 k17) (Lib.heap_setCell_same (i := 0) k17 _), two_other (by omega) k27, below_set (below_set B7.out (Nat.le_refl _)) (Nat.le_refl _)⟩
      case rest =>
        obtain ⟨rfl, rfl, ab3, ac3, cb3, cc3, k1, d1, k2, hbl⟩ := hcut
        clear B k1d k2d dd c0 c1 lx
        go_wp2_with fail
        refine ⟨⟨k + 1, ab3, ac3, cb3, cc3, by go_num, hlt, ?_, k1, ?_, k2, hbl⟩, by simp [intOf]; omega⟩
        · rw [← HZ.out]
        · rw [← HE.out]; exact d1
    · obtain rfl : k = l.length := by omega
      have hlt' : decide ((l.length : Int) < l.length) = false := by simp
      rw [List.take_length] at d1 ⊢
      obtain ⟨z, hz⟩ : ∃ z, z = sizeJ (pre ++ l) := ⟨_, rfl⟩
      rw [← hz]
      have hP : LaidPost w d pre l (.returned (.tuple #[.agg #[.slice ab2 d.1.length cb2, .slice ac2 (d.2.length + l.length) cc2], .int .i64 (z : Int), .bool true])) ((Wr.setCell ⟨w.heap.size + 1, 0, none⟩ (.slice ab2 d.1.length cb2)).setCell ⟨w.heap.size + 1, 1, none⟩ (.slice ac2 (d.2.length + l.length) cc2)) := by
        rw [hz]
        exact ⟨_, _, _, _, rfl, disk_apart (disk_apart d1 k2) (Lib.heap_setCell_same (i := 0) k2 _), below_set (below_set hbl (by omega)) (by omega)⟩
      have hP' := Lib.hid hP
      have r0 := cell2_0 k2
      have r1 := cell2_1 k2
      have r2 := frozen2 k2 0
      have r3 := frozen2 k2 1
      clear hP hz d1
      go_wp2
      refine bodyPost_ret (results_cell_tmp2 rfl _ _ (w.heap.size + 1) _ _ _ _ rfl (set_two k2) Tryd.underlying25 rfl (by kernel_rfl)) rfl ?_
      exact hP'.out
end Go.Proofs.YthhghggaoljcbaaDoor
