/- The walks of the statements DiskMakes, DiskWrites and DiskCrashes, chapter 11 (disk). -/
import Derived.Test.YtiemlaofhmncdaaDiskAw
namespace Go.Proofs.Ytiemlaofhmncdaa
open Go.RowKit Disk11

theorem as_diskN {B : Nat} {w w' : World} {e : Ending} {r : Dev × Nat}
    (h : ∃ v', e = .returned (.tuple #[v', .int .i64 r.2]) ∧ DiskIs w' r.1 v' ∧ Below B w w') :
    ∃ ab nb cb ac nc cc, e = .returned (.tuple #[.agg #[.slice ab nb cb, .slice ac nc cc], .int .i64 r.2]) ∧ DiskIs w' r.1 (.agg #[.slice ab nb cb, .slice ac nc cc]) ∧ Below B w w' := by
  obtain ⟨v', rfl, hd, hb⟩ := h
  obtain ⟨ab, cb, ac, cc, rfl, _⟩ := hd.form
  exact ⟨ab, _, cb, ac, _, cc, rfl, hd, hb⟩
theorem SameDisk_same (a : Dev) (va vb : Value) (w : World) (ha : DiskIs w a va) (hb : DiskIs w a vb) (hla : a.1.length < 4398046511104) (hlc : a.2.length < 4398046511104) :
    Calls Try.prog 17 #[va, vb] w fun e w' => e = .returned (.bool true) ∧ Below w.heap.size w w' :=
  (SameDisk_any a a va vb w ha hb hla hlc).mono fun _ _ => as_read (by simp)
theorem SameInts_same (a : List Nat) (va vb : Value) (w : World) (ha : Row w 1 va a.length (intVals a)) (hb : Row w 1 vb a.length (intVals a)) (hla : a.length < 4398046511104) :
    Calls Try.prog 35 #[va, vb] w fun e w' => e = .returned (.bool true) ∧ Below w.heap.size w w' :=
  (SameInts_any a a va vb w ha hb hla).mono fun _ _ => as_read (by simp)
theorem OwnDisk_is (d : Dev) (v : Value) (w : World) (h : DiskIs w d v) (hl : d.1.length ≤ 4096) (hl2 : d.2.length ≤ 4096) :
    Calls Try.prog 12 #[v] w fun e w' => ∃ ab cb ac cc, e = .returned (.agg #[.slice ab d.1.length cb, .slice ac d.2.length cc]) ∧ DiskIs w' d (.agg #[.slice ab d.1.length cb, .slice ac d.2.length cc]) ∧ Below w.heap.size w w' :=
  (OwnDisk_any d v w h hl hl2).mono fun e w' ⟨vb, vc, he, o1, o2, hb⟩ => by
    have hd : DiskIs w' d (.agg #[vb, vc]) := ⟨_, _, rfl, Row.of_own o1, Row.of_own o2⟩
    obtain ⟨ab, cb, ac, cc, e2, _⟩ := hd.form
    exact ⟨ab, cb, ac, cc, by rw [he, e2], e2 ▸ hd, hb⟩
theorem newD_len (n : Int) : (newD n).1.1.length ≤ 4096 ∧ (newD n).1.2.length ≤ 4096 := by
  unfold newD
  split
  · simp [none0]
  · simp; omega
theorem writeD_len (d : Dev) (p : Int) (x : List UInt8) : (writeD d p x).1.1.length ≤ d.1.length ∧ (writeD d p x).1.2.length ≤ d.2.length + 1 := by
  unfold writeD
  split
  · simp [none0]
  · split
    · simp [none0]
    · split
      · simp [none0]
      · simp
theorem syncD_len (d : Dev) : (syncD d).1.1.length ≤ d.1.length ∧ (syncD d).1.2.length = 0 := by
  unfold syncD
  split
  · simp [none0]
  · rename_i h
    have hg : Disk11.Good d := (chk_good d).1 (chk_ok (by simpa using h))
    refine ⟨?_, rfl⟩
    show (chunk (readAll d)).length ≤ _
    rw [chunk_length, readAll_length hg]; omega
theorem crashB_len {d : Dev} (hg : Disk11.Good d) (k t : Nat) (hk : k ≤ d.2.length) : (layF (readK d k) (nextD d k).1.toNat ((nextD d k).2.take t)).length = 64 * d.1.length := by
  rw [layF_length, readK_length hg]
  rw [readK_length hg]
  unfold nextD
  by_cases h : k < d.2.length
  · rw [List.getElem?_eq_getElem h, Option.getD_some]
    have := hg.2.2.2.2 _ (List.getElem_mem h)
    have h2 := List.length_take_le t d.2[k].2
    have h3 : (d.2[k].2.take t).length ≤ d.2[k].2.length := List.length_take_le' ..
    obtain ⟨_, a, b⟩ := this
    unfold Disk11.size at b
    omega
  · rw [List.getElem?_eq_none (by omega)]
    simp
theorem crashD_len (d : Dev) (keep torn : Int) : (crashD d keep torn).1.1.length ≤ d.1.length ∧ (crashD d keep torn).1.2.length = 0 := by
  unfold crashD
  split
  · simp [none0]
  · rename_i h
    have hg : Disk11.Good d := (chk_good d).1 (chk_ok (by simpa using h))
    split
    · simp [none0]
    · rename_i h2
      split
      · simp [none0]
      · refine ⟨?_, rfl⟩
        show (chunk _).length ≤ _
        rw [chunk_length, crashB_len hg _ _ (by omega)]; omega
theorem dirtyD_len (d : Dev) : (dirtyD d).1.length ≤ d.1.length := by
  unfold dirtyD
  split
  · simp
  · have := dirtyTo_le d d.1.length; rwa [dirtyTo_all] at this

set_option maxHeartbeats 2000000 in
set_option maxRecDepth 100000 in
theorem DiskMakes_any (n : Int) (w : World) :
    Calls Try.prog 4 #[.int .i64 n] w fun e w' => e = .returned (.bool true) ∧ Below w.heap.size w w' := by
  have HA := Lib.hid (fun W => awake_any W)
  obtain ⟨hb, hc⟩ := newD_len n
  have HN := Lib.hid (fun W => (New_any n W).mono (fun _ _ => as_diskN))
  have HR := Lib.hid (fun W => (RNew_any n W).mono (fun _ _ => as_diskN))
  generalize newD n = r at *
  obtain ⟨d, k⟩ := r
  dsimp only at HN HR hb hc
  have HS := Lib.hid (fun v1 v2 W r1 r2 => SameDisk_same d v1 v2 W r1 r2 (by omega) (by omega))
  clear hb hc
  have two : ∀ (q : Prop), (decide (60 < n) = false ∨ decide (60 < n) = true ∧ decide (n < 4090) = false → q) → (decide (60 < n) = true → decide (n < 4090) = true → q) → q := fun q h1 h2 => by
    by_cases a : 60 < n
    · by_cases b : n < 4090
      · exact h2 (by simpa using a) (by simpa using b)
      · exact h1 (.inr ⟨by simpa using a, by simpa using b⟩)
    · exact h1 (.inl (by simpa using a))
  refine two _ (fun hcase => ?_) (fun h1 h2 => ?_)
  · clear two
    rcases hcase with h1 | ⟨h1, h2⟩
    all_goals
      go_enter Try.func4, Try.ntmps4
      go_wp2_with fail
      refine (HN.out _).mono ?_
      rintro e w1 ⟨ab, nb, cb, ac, nc, cc, rfl, d1, b1⟩
      have k1 := World.alloc_heap_new w1 (.cells #[.slice ab nb cb, .slice ac nc cc] 25)
      have a1 := Go.Joins.below_alloc1 w1 (.cells #[.slice ab nb cb, .slice ac nc cc] 25)
      have t1 := b1.trans (a1.mono b1.size)
      have d1' := d1.below a1
      clear d1 b1 a1
      go_wp2_with fail
      refine (HR.out _).mono ?_
      rintro e w2 ⟨ab2, nb2, cb2, ac2, nc2, cc2, rfl, d2, b2⟩
      have a2 := Go.Joins.below_alloc1 w2 (.cells #[.slice ab2 nb2 cb2, .slice ac2 nc2 cc2] 25)
      have q2 := b2.trans (a2.mono b2.size)
      have t2 := t1.trans (q2.mono t1.size)
      have d2' := d2.below a2
      have d12 := d1'.below q2
      have k2 := heap_below k1 q2
      have x0 := cell2_0 k2
      have x1 := cell2_1 k2
      clear t1 d1' d2 b2 a2 q2 k1
      go_wp2_with fail
      refine (HS.out _ _ _ d12 d2').mono ?_
      rintro e w3 ⟨rfl, b3⟩
      have t3 := t2.trans (b3.mono t2.size)
      go_wp2_with fail
      refine (HA.out _).mono ?_
      rintro e w4 ⟨rfl, b4⟩
      go_wp2
      go_ret
      exact ⟨rfl, t3.trans (b4.mono t3.size)⟩
  · clear two
    go_enter Try.func4, Try.ntmps4
    go_wp2_with fail
    refine (HA.out _).mono ?_
    rintro e w4 ⟨rfl, b4⟩
    go_wp2
    go_ret
    exact ⟨rfl, b4⟩
set_option maxHeartbeats 2000000 in
set_option maxRecDepth 100000 in
theorem DiskWrites_any (d : Dev) (v : Value) (p n : Int) (x : List UInt8) (w : World) (h : DiskIs w d v) :
    Calls Try.prog 3 #[v, .int .i64 p, .int .i64 n, .string ⟨x.toArray⟩] w fun e w' => e = .returned (.bool true) ∧ Below w.heap.size w w' := by
  have HA := Lib.hid (fun W => awake_any W)
  have HL := Lib.hid (fun v W h => LightDisk_any d v 40 1010 W h (by decide) (by decide))
  obtain ⟨q, hq⟩ : ∃ q, q = light d 40 1010 := ⟨_, rfl⟩
  rw [← hq] at HL
  have hD := Lib.hid h
  obtain ⟨ab, cb, ac, cc, rfl, _, _, _, _⟩ := h.form
  clear h
  have b0 := Go.Joins.below_alloc1 w (.cells #[.slice ab d.1.length cb, .slice ac d.2.length cc] 25)
  have k0 := World.alloc_heap_new w (.cells #[.slice ab d.1.length cb, .slice ac d.2.length cc] 25)
  have hd0 := Lib.hid (hD.out.below b0)
  cases q with
  | false =>
    clear hq
    go_enter Try.func3, Try.ntmps3
    go_wp2_with fail
    refine (HL.out _ _ hd0.out).mono ?_
    rintro e w1 ⟨rfl, b1⟩
    go_wp2_with fail
    refine (HA.out _).mono ?_
    rintro e w2 ⟨rfl, b2⟩
    go_wp2
    go_ret
    exact ⟨rfl, b0.trans ((andThen b1 b2).mono b0.size)⟩
  | true =>
    obtain ⟨l1, l2, _, _⟩ := (light_iff d 40 1010).1 hq.symm
    clear hq
    obtain ⟨hw1, hw2⟩ := writeD_len d p x
    have HO := Lib.hid (fun v W h => OwnDisk_is d v W h (by omega) (by omega))
    have HC := Lib.hid (fun v W h => Check_any d v W h)
    have HRC := Lib.hid (fun v W h => RCheck_any d v W h)
    have HW := Lib.hid (fun v W h => (Write_any d v p x W h).mono (fun _ _ => as_diskN))
    have HRW := Lib.hid (fun v W h => (RWrite_any d v p x W h).mono (fun _ _ => as_diskN))
    have HR := Lib.hid (fun v W h => Read_any d v p n W h)
    have HRR := Lib.hid (fun v W h => RRead_any d v p n W h)
    have HSD := Lib.hid (fun v1 v2 W r1 r2 => SameDisk_same d v1 v2 W r1 r2 (by omega) (by omega))
    generalize chk d = c at HC HRC
    generalize writeD d p x = r at HW HRW hw1 hw2
    generalize readD d p n = y at HR HRR
    obtain ⟨c1, c2⟩ := c
    obtain ⟨rd, rk⟩ := r
    obtain ⟨y, yk⟩ := y
    dsimp only at HC HRC HW HRW HR HRR hw1 hw2
    have HSR := Lib.hid (fun v1 v2 W r1 r2 => SameDisk_same rd v1 v2 W r1 r2 (by omega) (by omega))
    have early : Hid ((decide ((40 : Int) < d.2.length) = true ∧ decide ((d.2.length : Int) < 999) = true) ∨ ((decide ((40 : Int) < d.2.length) = false ∨ decide ((40 : Int) < d.2.length) = true ∧ decide ((d.2.length : Int) < 999) = false) ∧ (decide ((5000 : Int) < x.length) = true ∨ decide ((5000 : Int) < x.length) = false))) := Lib.hid (by
      simp only [decide_eq_true_eq, decide_eq_false_iff_not]; omega)
    clear hw1 hw2
    rcases early.out with ⟨g1, g2⟩ | ⟨g | ⟨g, g2⟩, g3 | g3⟩
    all_goals
      clear early
      go_enter Try.func3, Try.ntmps3
      go_wp2_with fail
      refine (HL.out _ _ hd0.out).mono ?_
      rintro e w1 ⟨rfl, b1⟩
      have k1 := heap_below k0 b1
      have x1 := cell2_1 k1
      have x0 := cell2_0 k1
      have t1 := b0.trans (b1.mono b0.size)
    all_goals try (
      go_wp2_with fail
      refine (HA.out _).mono ?_
      rintro e w2 ⟨rfl, b2⟩
      go_wp2
      go_ret
      exact ⟨rfl, t1.trans (b2.mono t1.size)⟩)
    all_goals
      have d1 := hD.out.below t1
      clear b1 k0 b0
      go_wp2_with fail
      refine (HO.out _ _ d1).mono ?_
      rintro e w2 ⟨ob, ocb, oc, occ, rfl, d2, b2⟩
      have k2 := World.alloc_heap_new w2 (.cells #[.slice ob d.1.length ocb, .slice oc d.2.length occ] 25)
      have a2 := Go.Joins.below_alloc1 w2 (.cells #[.slice ob d.1.length ocb, .slice oc d.2.length occ] 25)
      have q2 := b2.trans (a2.mono b2.size)
      have t2 := t1.trans (q2.mono t1.size)
      have k12 := heap_below k1 q2
      have d2' := d2.below a2
      clear t1 b2 a2 k1 d1 d2 q2 x0 x1
      go_wp2_with fail
      refine (HC.out _ _ d2').mono ?_
      rintro e w3 ⟨rfl, b3⟩
      have k3 := heap_below k2 b3
      have k13 := heap_below k12 b3
      have t3 := t2.trans (b3.mono t2.size)
      have d3 := d2'.below b3
      have d13 := hD.out.below t3
      have x0 := cell2_0 k13
      have x1 := cell2_1 k13
      clear k2 k12 t2 d2' b3
      go_wp2_with fail
      refine (HRC.out _ _ d13).mono ?_
      rintro e w4 ⟨rfl, b4⟩
      have k4 := heap_below k3 b4
      have k14 := heap_below k13 b4
      have t4 := t3.trans (b4.mono t3.size)
      have d4 := d3.below b4
      have x0 := cell2_0 k4
      have x1 := cell2_1 k4
      clear k3 k13 t3 d3 b4 d13
      go_wp2_with fail
      refine (HW.out _ _ d4).mono ?_
      rintro e w5 ⟨wb, wn, wcb, wc, wm, wcc, rfl, d5, b5⟩
      have k5 := World.alloc_heap_new w5 (.cells #[.slice wb wn wcb, .slice wc wm wcc] 25)
      have a5 := Go.Joins.below_alloc1 w5 (.cells #[.slice wb wn wcb, .slice wc wm wcc] 25)
      have q5 := b5.trans (a5.mono b5.size)
      have t5 := t4.trans (q5.mono t4.size)
      have k45 := heap_below k4 q5
      have k15 := heap_below k14 q5
      have d45 := d4.below q5
      have d5' := d5.below a5
      have d15 := hD.out.below t5
      have x0 := cell2_0 k15
      have x1 := cell2_1 k15
      clear t4 b5 a5 q5 k4 k14 d4 d5
      go_wp2_with fail
      refine (HRW.out _ _ d15).mono ?_
      rintro e w6 ⟨wb2, wn2, wcb2, wc2, wm2, wcc2, rfl, d6, b6⟩
      have k6 := World.alloc_heap_new w6 (.cells #[.slice wb2 wn2 wcb2, .slice wc2 wm2 wcc2] 25)
      have a6 := Go.Joins.below_alloc1 w6 (.cells #[.slice wb2 wn2 wcb2, .slice wc2 wm2 wcc2] 25)
      have q6 := b6.trans (a6.mono b6.size)
      have t6 := t5.trans (q6.mono t5.size)
      have k56 := heap_below k5 q6
      have k46 := heap_below k45 q6
      have k16 := heap_below k15 q6
      have d46 := d45.below q6
      have d56 := d5'.below q6
      have d6' := d6.below a6
      have x0 := cell2_0 k56
      have x1 := cell2_1 k56
      clear t5 b6 a6 q6 k5 k45 k15 d45 d5' d6 d15
      go_wp2_with fail
      refine (HSR.out _ _ _ d56 d6').mono ?_
      rintro e w7 ⟨rfl, b7⟩
      have t7 := t6.trans (b7.mono t6.size)
      have k47 := heap_below k46 b7
      have k17 := heap_below k16 b7
      have d47 := d46.below b7
      have x0 := cell2_0 k47
      have x1 := cell2_1 k47
      clear t6 k46 k16 d46 d56 d6' b7 k6 k56
      go_wp2_with fail
      refine (HR.out _ _ d47).mono ?_
      rintro e w8 ⟨rfl, b8⟩
      have t8 := t7.trans (b8.mono t7.size)
      have k48 := heap_below k47 b8
      have k18 := heap_below k17 b8
      have d48 := d47.below b8
      have d18 := hD.out.below t8
      have x0 := cell2_0 k18
      have x1 := cell2_1 k18
      clear t7 k47 k17 d47 b8
      go_wp2_with fail
      refine (HRR.out _ _ d18).mono ?_
      rintro e w9 ⟨rfl, b9⟩
      have t9 := t8.trans (b9.mono t8.size)
      have k49 := heap_below k48 b9
      have k19 := heap_below k18 b9
      have d49 := d48.below b9
      have d19 := hD.out.below t9
      have x0 := cell2_0 k19
      have x1 := cell2_1 k19
      have y0 := cell2_0 k49
      have y1 := cell2_1 k49
      clear t8 k48 k18 d48 d18 b9
      go_wp2_with fail
      refine (HSD.out _ _ _ d49 d19).mono ?_
      rintro e w10 ⟨rfl, b10⟩
      go_wp2_with fail
      refine (HA.out _).mono ?_
      rintro e w11 ⟨rfl, b11⟩
      go_wp2
      go_ret
      exact ⟨rfl, t9.trans ((andThen b10 b11).mono t9.size)⟩
end Go.Proofs.Ytiemlaofhmncdaa
