/- The plain law and the walk of DiskSynced, chapter 11 (disk). -/
import Derived.Test.YtiemlaofhmncdaaDiskBk
import Derived.Deep.RegionHeld3
import Derived.Deep.DeepCutAuto
namespace Go.Proofs.Ytiemlaofhmncdaa
open Go.RowKit Disk11

theorem syncD_ok {d : Dev} (h : Disk11.Good d) : syncD d = ((chunk (readAll d), []), 0) := by unfold syncD; rw [good_chk h, if_neg (by simp)]
theorem chunk_len {b : List UInt8} {n : Nat} (h : b.length = 64 * n) : (chunk b).length = n := by rw [chunk_length, h]; omega
theorem good_chunk {b : List UInt8} {n : Nat} (h : b.length = 64 * n) (h1 : 1 ≤ n) (h2 : n ≤ 4096) : Disk11.Good (chunk b, []) :=
  ⟨by show 1 ≤ (chunk b).length; rw [chunk_len h]; exact h1, by show (chunk b).length ≤ _; rw [chunk_len h]; exact h2, chunk_whole b, Nat.zero_le _, fun w hw => by simp at hw⟩
theorem readAll_chunk {b : List UInt8} {n : Nat} (h : b.length = 64 * n) : readAll (chunk b, []) = b := flatten_chunk h
theorem crashD_ok {d : Dev} (h : Disk11.Good d) (k t : Nat) (hk : k ≤ d.2.length) (ht : t ≤ (nextD d k).2.length) : crashD d k t = ((chunk (layF (readK d k) (nextD d k).1.toNat ((nextD d k).2.take t)), []), 0) := by
  unfold crashD
  rw [good_chk h, if_neg (by simp), if_neg (by omega), if_neg (by rw [Int.toNat_natCast]; omega), Int.toNat_natCast, Int.toNat_natCast]
theorem crash_zero {d : Dev} (h : Disk11.Good d) (k : Nat) (hk : k ≤ d.2.length) : crashD d k 0 = ((chunk (readK d k), []), 0) := by
  have := crashD_ok h k 0 hk (Nat.zero_le _)
  rw [List.take_zero, layF_nil] at this
  exact this
theorem crash_full {d : Dev} (h : Disk11.Good d) (k : Nat) (hk : k < d.2.length) : crashD d k d.2[k].2.length = ((chunk (readK d (k + 1)), []), 0) := by
  have e : nextD d k = d.2[k] := by unfold nextD; rw [List.getElem?_eq_getElem hk]; rfl
  rw [crashD_ok h k _ (by omega) (by rw [e]; exact Nat.le_refl _), e, List.take_length, readK_succ hk]
theorem crash_end {d : Dev} (h : Disk11.Good d) : crashD d d.2.length 0 = ((chunk (readAll d), []), 0) := by
  rw [crash_zero h _ (Nat.le_refl _), readK_all]
theorem crash_none {d : Dev} (h : Disk11.Good d) : crashD d 0 0 = ((d.1, []), 0) := by
  have := crash_zero h 0 (Nat.zero_le _)
  have e : readK d 0 = d.1.flatten := by unfold readK; rfl
  rw [e, chunk_flatten h.2.2.1] at this
  exact this
theorem dirty_none {b : List UInt8} {n : Nat} (h : b.length = 64 * n) (h1 : 1 ≤ n) (h2 : n ≤ 4096) : dirtyD (chunk b, []) = ([], 0) := by
  unfold dirtyD
  rw [good_chk (good_chunk h h1 h2), if_neg (by simp)]
  unfold dirtyL
  rw [readAll_chunk h]
  simp

theorem cell_far2 {w : World} {a : Addr} {x u u' : Value} {g j j' : Nat} (h : w.cell? a = some x) (hne : a.block ≠ g) : ((w.setCell ⟨g, j, none⟩ u).setCell ⟨g, j', none⟩ u').cell? a = some x := by
  have hl := cell_lt h
  have e1 := (grown_cell w g j u).block a.block hl (fun e => hne (by cases e; rfl))
  have e2 := (grown_cell (w.setCell ⟨g, j, none⟩ u) g j' u').block a.block (Nat.lt_of_lt_of_le hl (grown_cell w g j u).size) (fun e => hne (by cases e; rfl))
  unfold World.cell? at h ⊢
  rw [e2, e1]; exact h
set_option maxHeartbeats 8000000 in
set_option maxRecDepth 100000 in
theorem DiskSynced_any (l : List Int) (v : Value) (w : World) (hl : l.length ≤ maxLen) (hwf : ∀ n ∈ l, (Lit.int .i64 n).wf = true) (hrow : Row w 1 v l.length (l.map fun n => .int .i64 n)) :
    Calls Try.prog 8 #[v] w fun e w' => e = .returned (.bool true) ∧ Below w.heap.size w w' := by
  have HK := Lib.hid (fun W => DiskKnown_any W)
  have HM := Lib.hid (fun W h => Made_any l v W hl hwf h)
  have hR := Lib.hid hrow
  obtain ⟨na, nc, rfl, _⟩ := hrow.slice
  clear hrow hwf hl
  go_enter Try.func8, Try.ntmps8
  go_wp2_with fail
  refine (HK.out _).mono ?_
  rintro e w1 ⟨rfl, b1⟩
  go_wp2_with fail
  refine (HM.out _ (hR.out.below b1)).mono ?_
  rintro e w2 ⟨d, ab, ac, cb, cc, rfl, d2, ⟨hg, hl1, hl2⟩, b2⟩
  have k2 := World.alloc_heap_new w2 (.cells #[.slice ab d.1.length cb, .slice ac d.2.length cc] 25)
  have a2 := Go.Joins.below_alloc1 w2 (.cells #[.slice ab d.1.length cb, .slice ac d.2.length cc] 25)
  have t2 := (andThen b1 b2).trans (a2.mono (andThen b1 b2).size)
  have d2' := d2.below a2
  have hlen := readAll_length hg
  have hg1 := hg.1
  clear d2 a2 b1 b2
  have HR1 := Lib.hid (fun v W h => Read_any d v 0 ((d.1.length : Int) * 64) W h)
  rw [readD_all hg] at HR1
  have hgc := good_chunk hlen hg1 (by omega)
  have hcl := chunk_len hlen
  have HY := Lib.hid (fun v W h => (Sync_any d v W h).mono (fun _ _ => as_disk (nb := d.1.length) (nc := 0) 0 (syncD_ok hg) rfl hcl rfl))
  have HR2 := Lib.hid (fun v W h => Read_any (chunk (readAll d), []) v 0 ((d.1.length : Int) * 64) W h)
  have hra := readD_all hgc
  rw [show ((chunk (readAll d), []) : Dev).1.length = d.1.length from hcl, readAll_chunk hlen] at hra
  rw [hra] at HR2
  have HC1 := Lib.hid (fun v W h => (Crash_any d v d.2.length 0 W h).mono (fun _ _ => as_disk (nb := d.1.length) (nc := 0) 0 (crash_end hg) rfl hcl rfl))
  have HC2 := Lib.hid (fun v W h => (Crash_any d v 0 0 W h).mono (fun _ _ => as_disk (nb := d.1.length) (nc := 0) 0 (crash_none hg) rfl rfl rfl))
  have HD := Lib.hid (fun v W h => Dirty_any (chunk (readAll d), []) v W h)
  rw [dirty_none hlen hg1 (by omega)] at HD
  obtain ⟨S, hS⟩ : ∃ S : Dev, S = (chunk (readAll d), []) := ⟨_, rfl⟩
  have hSl : S.1.length ≤ 4 ∧ S.2.length = 0 := by rw [hS]; exact ⟨by show (chunk (readAll d)).length ≤ 4; omega, rfl⟩
  rw [← hS] at HY HR2 HC1 HD
  have HSD := Lib.hid (fun v1 v2 W r1 r2 => SameDisk_same S v1 v2 W r1 r2 (by omega) (by omega))
  have HST := Lib.hid (fun v1 v2 W r1 r2 => (SameTexts_any d.1 d.1 v1 v2 W r1 r2 (by omega)).mono (fun _ _ => as_read (by simp)))
  generalize readAll d = Y at HR1 HR2
  clear hS hSl hcl hgc hra hlen
  have x0 := cell2_0 k2
  have x1 := cell2_1 k2
  go_wp2_with fail
  refine (HR1.out _ _ d2').mono ?_
  rintro e w3 ⟨rfl, b3⟩
  have k3 := heap_below k2 b3
  have t3 := t2.trans (b3.mono t2.size)
  have d3 := d2'.below b3
  have x0 := cell2_0 k3
  have x1 := cell2_1 k3
  clear k2 t2 d2' b3
  go_wp2_with fail
  refine (HY.out _ _ d3).mono ?_
  rintro e w4 ⟨ab4, cb4, ac4, cc4, rfl, s4, b4⟩
  have k8 := World.alloc_heap_new w4 (.cells #[.slice ab4 d.1.length cb4, .slice ac4 0 cc4] 25)
  have a4 := Go.Joins.below_alloc1 w4 (.cells #[.slice ab4 d.1.length cb4, .slice ac4 0 cc4] 25)
  have q4 := b4.trans (a4.mono b4.size)
  have k4 := heap_below k3 q4
  have t4 := t3.trans (q4.mono t3.size)
  have d4 := d3.below q4
  have s4' := s4.below a4
  clear k3 t3 d3 b4 x0 x1 a4 s4 q4
  go_wp2_with fail
  refine (HR2.out _ _ s4').mono ?_
  rintro e w5 ⟨rfl, b5⟩
  have t5 := t4.trans (b5.mono t4.size)
  have k5 := heap_below k4 b5
  have k85 := heap_below k8 b5
  have d5 := d4.below b5
  have s5 := s4'.below b5
  have x0 := cell2_0 k5
  have x1 := cell2_1 k5
  clear t4 k4 k8 d4 s4' b5
  go_wp2_with fail
  refine (HC1.out _ _ d5).mono ?_
  rintro e w6 ⟨ab6, cb6, ac6, cc6, rfl, c6, b6⟩
  have k12 := World.alloc_heap_new w6 (.cells #[.slice ab6 d.1.length cb6, .slice ac6 0 cc6] 25)
  have a6 := Go.Joins.below_alloc1 w6 (.cells #[.slice ab6 d.1.length cb6, .slice ac6 0 cc6] 25)
  have q6 := b6.trans (a6.mono b6.size)
  have k6 := heap_below k5 q6
  have k86 := heap_below k85 q6
  have t6 := t5.trans (q6.mono t5.size)
  have d6 := d5.below q6
  have s6 := s5.below q6
  have c6' := c6.below a6
  have x0 := cell2_0 k6
  have x1 := cell2_1 k6
  clear t5 k5 k85 d5 s5 b6 a6 q6 c6
  go_wp2_with fail
  refine (HC2.out _ _ d6).mono ?_
  rintro e w7 ⟨ab7, cb7, ac7, cc7, rfl, e7, b7⟩
  have k14 := World.alloc_heap_new w7 (.cells #[.slice ab7 d.1.length cb7, .slice ac7 0 cc7] 25)
  have a7 := Go.Joins.below_alloc1 w7 (.cells #[.slice ab7 d.1.length cb7, .slice ac7 0 cc7] 25)
  have q7 := b7.trans (a7.mono b7.size)
  have k7 := heap_below k6 q7
  have k87 := heap_below k86 q7
  have k127 := heap_below k12 q7
  have t7 := t6.trans (q7.mono t6.size)
  have d7 := d6.below q7
  have s7 := s6.below q7
  have c7 := c6'.below q7
  have e7' := e7.below a7
  have x0 := cell2_0 k87
  have x1 := cell2_1 k87
  have y0 := cell2_0 k127
  have y1 := cell2_1 k127
  clear t6 k6 k86 k12 d6 s6 c6' b7 a7 q7 e7
  go_wp2_with fail
  refine (HSD.out _ _ _ s7 c7).mono ?_
  rintro e w8 ⟨rfl, b8⟩
  have t8 := t7.trans (b8.mono t7.size)
  have k8' := heap_below k7 b8
  have k88 := heap_below k87 b8
  have k148 := heap_below k14 b8
  have d8 := d7.below b8
  have s8 := s7.below b8
  have e8 := e7'.below b8
  have x0 := cell2_0 k8'
  have x1 := cell2_1 k8'
  have y0 := cell2_0 k148
  have y1 := cell2_1 k148
  clear t7 k7 k87 k127 k14 d7 s7 c7 e7' b8
  obtain ⟨_, _, he8, er8, _⟩ := e8
  cases he8
  obtain ⟨_, _, hd8, dr8, dc8⟩ := id d8
  cases hd8
  go_wp2_with fail
  refine (HST.out _ _ _ er8 dr8).mono ?_
  rintro e w9 ⟨rfl, b9⟩
  have t9 := t8.trans (b9.mono t8.size)
  have k9 := heap_below k8' b9
  have k89 := heap_below k88 b9
  have k149 := heap_below k148 b9
  have d9 := d8.below b9
  have s9 := s8.below b9
  have x0 := cell2_0 k9
  have x1 := cell2_1 k9
  have y0 := cell2_0 k149
  have y1 := cell2_1 k149
  clear t8 k8' k88 k148 d8 s8 b9 er8 dr8 dc8
  go_wp2
  have hdl : d.2.length ≤ 6 := hl2
  go_loopw [16] (fun i wr => ∃ k : Nat, i = .int .i64 k ∧ k ≤ d.2.length ∧ Below w9.heap.size w9 wr) (fun i _ => d.2.length - (intOf i).toNat)
  case atStart => exact ⟨0, rfl, Nat.zero_le _, Below.refl _ _⟩
  case round =>
    obtain ⟨k, rfl, hk, hbl⟩ := hrel
    have tk := t9.trans (hbl.mono t9.size)
    have kk := heap_below k9 hbl
    have kk8 := heap_below k89 hbl
    have dk := d9.below hbl
    have sk := s9.below hbl
    have cx0 := cell2_0 kk
    have cx1 := cell2_1 kk
    have cy0 := cell2_0 kk8
    have cy1 := cell2_1 kk8
    clear x0 x1 y0 y1
    by_cases hlt : k < d.2.length
    · have hlt' : decide ((k : Int) < d.2.length) = true := by simp; omega
      have hrl := readK_length hg (k + 1)
      have HC3 := Lib.hid (fun v W h => (Crash_any d v k d.2[k].2.length W h).mono (fun _ _ => as_disk (nb := d.1.length) (nc := 0) 0 (crash_full hg k hlt) rfl (chunk_len hrl) rfl))
      have HC4 := Lib.hid (fun v W h => (Crash_any d v ((k : Int) + 1) 0 W h).mono (fun _ _ => as_disk (nb := d.1.length) (nc := 0) 0 (crash_zero hg (k + 1) hlt) rfl (chunk_len hrl) rfl))
      obtain ⟨X, hX⟩ : ∃ X : Dev, X = (chunk (readK d (k + 1)), []) := ⟨_, rfl⟩
      have hXl : X.1.length ≤ 4 ∧ X.2.length = 0 := by rw [hX]; exact ⟨by show (chunk (readK d (k + 1))).length ≤ 4; rw [chunk_len hrl]; omega, rfl⟩
      rw [← hX] at HC3 HC4
      have HSX := Lib.hid (fun v1 v2 W r1 r2 => SameDisk_same X v1 v2 W r1 r2 (by omega) (by omega))
      clear hX hXl hrl
      obtain ⟨_, _, hdk, _, dck⟩ := id dk
      cases hdk
      obtain ⟨na, rfl, q1⟩ := dck.cell (wrVals_at d.2 k hlt).2
      have q1' := cell_next q1
      clear q1
      obtain ⟨yl, hyl⟩ : ∃ yl, yl = d.2[k].2 := ⟨_, rfl⟩
      rw [← hyl] at q1' HC3
      clear hyl dck
      go_upto_region 14 with (fail)
      go_cut [17, 18] from 116 to 129 (fun u v W => ∃ (g cb3 cc3 : Nat) (ab3 ac3 : Option Addr), u = .pointer (some ⟨g, 0, none⟩) ∧ v = .int .i64 0 ∧ W.heap[g]? = some (.cells #[.slice ab3 d.1.length cb3, .slice ac3 0 cc3] 25 (0, 0)) ∧ DiskIs W X (.agg #[.slice ab3 d.1.length cb3, .slice ac3 0 cc3]) ∧ Below wr.heap.size wr W)
      case first =>
        have al := Go.Joins.below_alloc1 wr (.cells #[.slice none 0 0, .slice none 0 0] 25)
        have kA := heap_below kk al
        have qA := cell_below al q1'
        have dA := Lib.hid (dk.below al).drew
        have dB := Lib.hid dk.drew
        have z0 := cell2_0 kA
        have z1 := cell2_1 kA
        have hlk := Lib.hid (And.intro kk (And.intro kA al))
        have hnew := Lib.hid (World.alloc_heap_new wr (.cells #[.slice none 0 0, .slice none 0 0] 25))
        clear tk sk kk kA kk8 al dk
        have l1 : w2.heap.size < wr.heap.size := (Array.getElem?_eq_some_iff.1 hlk.out.1).1
        have l2 : (na.add (k * 2)).block < wr.heap.size := by have := cell_lt q1'; exact this
        go_region_held3 (fun V => V.cell? ⟨w2.heap.size, 0, none⟩ = some (.slice ab d.1.length cb) ∧ V.cell? ⟨w2.heap.size, 1, none⟩ = some (.slice (some na) d.2.length cc) ∧ V.cell? { block := (na.add (k * 2)).block, off := (na.add (k * 2)).off + 1 } = some (.string ⟨yl.toArray⟩))
          (first | exact ⟨cx0, cx1, q1'⟩ | exact ⟨z0, z1, qA⟩ | exact ⟨o0, o1, o2⟩ | exact ⟨p0, p1, p2⟩ | exact ⟨cell_below (Go.Joins.below_alloc1 _ _) o0, cell_below (Go.Joins.below_alloc1 _ _) o1, cell_below (Go.Joins.below_alloc1 _ _) o2⟩ | go_keep)
          (first
            | (go_at_call 24; refine (HC3.out _ _ dA.out).mono ?_; rintro e w10 ⟨ab3, cb3, ac3, cc3, rfl, xd3, b10⟩; have n3 := heap_below (show (World.alloc wr _).drew.heap[wr.heap.size]? = _ from hnew.out) b10; have n0 := cell2_0 n3; have n1 := cell2_1 n3; have n4 := frozen2 n3 0; have n5 := frozen2 n3 1
               have o0 := cell_below b10 (show (World.alloc wr _).drew.cell? _ = _ from z0); have o1 := cell_below b10 (show (World.alloc wr _).drew.cell? _ = _ from z1); have o2 := cell_below b10 (show (World.alloc wr _).drew.cell? _ = _ from qA)
               have p0 := cell_far2 (g := wr.heap.size) (j := 0) (j' := 1) (u := .slice ab3 d.1.length cb3) (u' := .slice ac3 0 cc3) o0 (by show w2.heap.size ≠ _; omega); have p1 := cell_far2 (g := wr.heap.size) (j := 0) (j' := 1) (u := .slice ab3 d.1.length cb3) (u' := .slice ac3 0 cc3) o1 (by show w2.heap.size ≠ _; omega); have p2 := cell_far2 (g := wr.heap.size) (j := 0) (j' := 1) (u := .slice ab3 d.1.length cb3) (u' := .slice ac3 0 cc3) o2 (by show (na.add (k * 2)).block ≠ _; omega))
            | (go_at_call 24; refine (HC3.out _ _ dB.out).mono ?_; rintro e w10 ⟨ab3, cb3, ac3, cc3, rfl, xd3, b10⟩
               have o0 := cell_below b10 (show wr.drew.cell? _ = _ from cx0); have o1 := cell_below b10 (show wr.drew.cell? _ = _ from cx1); have o2 := cell_below b10 (show wr.drew.cell? _ = _ from q1')))
        · go_wp2_with fail
          go_meet
          have hb0 : Below wr.heap.size wr w10 := (Below.refl _ wr).drew.trans b10
          exact ⟨_, _, _, _, _, rfl, rfl, World.alloc_heap_new w10 _, xd3.alloc _, hb0.alloc hb0.size _⟩
        · go_wp2_with fail
          go_meet
          have hb0 : Below wr.heap.size wr w10 := (hlk.out.2.2).trans ((show Below (World.alloc wr _).heap.size (World.alloc wr _) w10 from (Below.refl _ _).drew.trans b10).mono hlk.out.2.2.size)
          exact ⟨_, _, _, _, _, rfl, rfl, set_two n3, disk_apart (disk_apart xd3 n3) (Lib.heap_setCell_same (i := 0) n3 _), below_set (below_set hb0 (Nat.le_refl _)) (Nat.le_refl _)⟩
      case rest =>
        obtain ⟨g, cb3, cc3, ab3, ac3, rfl, rfl, g3, xd3, hb3⟩ := hcut
        have m2 := heap_below kk hb3
        have m8 := heap_below kk8 hb3
        have tc := tk.trans (hb3.mono tk.size)
        have dc := dk.below hb3
        have e0 := cell2_0 m2
        have e1 := cell2_1 m2
        have hbc := hbl.trans (hb3.mono hbl.size)
        clear cx0 cx1 cy0 cy1 q1' kk kk8 dk sk hb3 tk
        go_wp2_with fail
        refine (HC4.out _ _ dc).mono ?_
        rintro e w11 ⟨ab4, cb4, ac4, cc4, rfl, xd4, b11⟩
        have a11 := Go.Joins.below_alloc1 w11 (.cells #[.slice ab4 d.1.length cb4, .slice ac4 0 cc4] 25)
        have q11 := b11.trans (a11.mono b11.size)
        have g11 := heap_below g3 q11
        have y0 := cell2_0 g11
        have y1 := cell2_1 g11
        have xd3' := xd3.below q11
        have xd4' := xd4.below a11
        have hbd := hbc.trans (q11.mono hbc.size)
        clear e0 e1 g3 xd3 xd4 a11 b11
        go_wp2_with fail
        refine (HSX.out _ _ _ xd3' xd4').mono ?_
        rintro e w12 ⟨rfl, b12⟩
        go_wp2
        exact ⟨⟨k + 1, rfl, hlt, hbd.trans (b12.mono hbd.size)⟩, by simp [intOf]; omega⟩
    · obtain rfl : k = d.2.length := by omega
      have hlt' : decide ((d.2.length : Int) < d.2.length) = false := by simp
      go_wp2_with fail
      refine (HD.out _ _ sk).mono ?_
      rintro e w10 ⟨vi, rfl, i10, b10⟩
      obtain ⟨iad, icp, rfl⟩ := i10.slice
      go_wp2
      go_ret
      exact ⟨rfl, tk.trans (b10.mono tk.size)⟩
end Go.Proofs.Ytiemlaofhmncdaa
