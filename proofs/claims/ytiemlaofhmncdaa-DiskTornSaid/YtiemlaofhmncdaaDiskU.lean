/- The walks of the reference's Sync, Crashes, chapter 11 (disk). -/
import Derived.Test.YtiemlaofhmncdaaDiskT
namespace Go.Proofs.Ytiemlaofhmncdaa
open Go.RowKit Disk11

set_option maxHeartbeats 4000000 in
set_option maxRecDepth 100000 in
theorem RSync_any (d : Dev) (v : Value) (w : World) (h : DiskIs w d v) :
    Calls Try.prog 30 #[v] w fun e w' => ∃ v', e = .returned (.tuple #[v', .int .i64 (syncD d).2]) ∧ DiskIs w' (syncD d).1 v' ∧ Below w.heap.size w w' := by
  have HC := Lib.hid (fun W h => RCheck_any d v W h)
  have HL := Lib.hid (fun W h hg => readR_any d v W h hg)
  have hD := Lib.hid h
  have hgd : (chk d).1 = 0 → Disk11.Good d := fun h => (chk_good d).1 (chk_ok h)
  obtain ⟨r, hr⟩ : ∃ r, r = syncD d := ⟨_, rfl⟩
  rw [← hr]
  unfold syncD at hr
  obtain ⟨c, hc⟩ : ∃ c, c = chk d := ⟨_, rfl⟩
  rw [← hc] at hr hgd HC
  clear hc
  obtain ⟨c1, c2⟩ := c
  dsimp only at hr hgd HC
  obtain ⟨ab, cb, ac, cc, rfl, _, _, _, _⟩ := h.form
  clear h
  by_cases h0 : c1 = 0
  · subst h0
    have hg := hgd rfl
    clear hgd
    rw [if_neg (by simp)] at hr
    have hl2 := hg.2.2.2.1
    go_enter Try.func30, Try.ntmps30
    go_wp2_with fail
    obtain ⟨k1, k2, hsz, hbl⟩ := alloc2 w (.cells #[.slice ab d.1.length cb, .slice ac d.2.length cc] 25) (.cells #[.slice none 0 0, .slice none 0 0] 25)
    refine (HC.out _ (hD.out.below hbl)).mono ?_
    rintro e w1 ⟨rfl, b1⟩
    have k1' := heap_below k1 b1
    have hb1 := hbl.trans (b1.mono hbl.size)
    have c0 := cell2_0 k1'
    have c1 := cell2_1 k1'
    go_wp2_with fail
    refine (HL.out w1 (hD.out.below hb1) hg).mono ?_
    rintro e w2 ⟨v2, rfl, o2, b2⟩
    have hb2 := hb1.trans (b2.mono hb1.size)
    have hra := readAll_length hg
    have HV := Lib.hid (deviceR_any (readAll d) d.1.length hra hg.2.1 v2 _ w2 o2)
    clear c0 c1
    go_wp2_with fail
    refine HV.out.mono ?_
    rintro e w3 ⟨v3, rfl, o3, b3⟩
    have hb3 := hb2.trans (b3.mono hb2.size)
    obtain ⟨ad, cp, rfl⟩ := own_slice o3
    have k2' := heap_below (heap_below (heap_below k2 b1) b2) b3
    have r0 := cell2_0 k2'
    have r1 := cell2_1 k2'
    have f0 := frozen2 k2' 0
    have f1 := frozen2 k2' 1
    go_wp2
    have hw1 : w.heap.size + 2 ≤ w2.heap.size := by have := b1.size; have := b2.size; omega
    have o4 := own_set (b := w.heap.size + 1) (j := 1) (u := .slice none 0 0) (own_set (b := w.heap.size + 1) (j := 0) (u := .slice ad d.1.length cp) o3 (by omega)) (by omega)
    have hlen : (chunk (readAll d)).length = d.1.length := by rw [← readK_all]; exact (chunk_readK hg _).1
    subst hr
    refine bodyPost_ret (results_cell_tmp rfl _ _ (w.heap.size + 1) _ _ _ _ rfl (set_two k2') Try.underlying25 rfl (by kernel_rfl)) rfl ⟨_, rfl, ⟨_, _, rfl, ?_, Row.nil _ _⟩, below_set (below_set hb3 (by omega)) (by omega)⟩
    show Row _ 1 _ (chunk (readAll d)).length _
    rw [hlen]
    exact Row.of_own o4
  · clear HL
    have h0' : ((c1 : Int) == 0) = false := by simp; omega
    rw [if_pos h0] at hr
    subst hr
    clear h0 hgd
    go_enter Try.func30, Try.ntmps30
    go_wp2_with fail
    obtain ⟨k1, k2, hsz, hbl⟩ := alloc2 w (.cells #[.slice ab d.1.length cb, .slice ac d.2.length cc] 25) (.cells #[.slice none 0 0, .slice none 0 0] 25)
    refine (HC.out _ (hD.out.below hbl)).mono ?_
    rintro e w1 ⟨rfl, b1⟩
    have k2' := heap_below k2 b1
    have r0 := cell2_0 k2'
    have r1 := cell2_1 k2'
    have f0 := frozen2 k2' 0
    have f1 := frozen2 k2' 1
    go_wp2
    refine bodyPost_ret (results_cell_tmp rfl _ _ (w.heap.size + 1) _ _ _ _ rfl (set_two k2') Try.underlying25 rfl (by kernel_rfl)) rfl ?_
    exact ⟨_, rfl, DiskIs.none _, below_set (below_set (hbl.trans (b1.mono hbl.size)) (by omega)) (by omega)⟩

set_option maxHeartbeats 4000000 in
set_option maxRecDepth 100000 in
theorem RCrashes_any (d : Dev) (v : Value) (w : World) (h : DiskIs w d v) :
    Calls Try.prog 32 #[v] w fun e w' => e = .returned (.tuple #[.int .i64 (crashesD d).1, .int .i64 (crashesD d).2]) ∧ Below w.heap.size w w' := by
  have HC := Lib.hid (fun W h => RCheck_any d v W h)
  have hD := Lib.hid h
  have hgd : (chk d).1 = 0 → Disk11.Good d := fun h => (chk_good d).1 (chk_ok h)
  obtain ⟨r, hr⟩ : ∃ r, r = crashesD d := ⟨_, rfl⟩
  rw [← hr]
  unfold crashesD at hr
  obtain ⟨c, hc⟩ : ∃ c, c = chk d := ⟨_, rfl⟩
  rw [← hc] at hr hgd HC
  clear hc
  obtain ⟨c1, c2⟩ := c
  dsimp only at hr hgd HC
  obtain ⟨ab, cb, ac, cc, rfl, _, _, _, hcc⟩ := h.form
  clear h
  have hal := Go.Joins.below_alloc1 w (.cells #[.slice ab d.1.length cb, .slice ac d.2.length cc] 25)
  have hk := World.alloc_heap_new w (.cells #[.slice ab d.1.length cb, .slice ac d.2.length cc] 25)
  by_cases h0 : c1 = 0
  · subst h0
    have hg := hgd rfl
    clear hgd
    rw [if_neg (by simp)] at hr
    have hl2 := hg.2.2.2.1
    have hsm := sums_small hg
    go_enter Try.func32, Try.ntmps32
    go_wp2_with fail
    refine (HC.out _ (hD.out.below hal)).mono ?_
    rintro e w1 ⟨rfl, b1⟩
    have k1 := heap_below hk b1
    have hb1 := hal.trans (b1.mono hal.size)
    have c0 := cell2_0 k1
    have c1 := cell2_1 k1
    go_wp2
    go_loopw [6, 7] (fun t i wr => ∃ k : Nat, i = .int .i64 k ∧ t = .int .i64 (1 + sumTo d k : Nat) ∧ k ≤ d.2.length ∧ wr = w1) (fun _ i _ => d.2.length - (intOf i).toNat)
    case atStart => exact ⟨0, rfl, rfl, Nat.zero_le _, rfl⟩
    case round =>
      obtain ⟨k, rfl, rfl, hkl, hwr⟩ := hrel
      subst wr
      by_cases hlt : k < d.2.length
      · have hlt' : decide ((k : Int) < d.2.length) = true := by simp; omega
        obtain ⟨a, rfl, q0, q1⟩ := hcc k hlt
        have hs := hsm (k + 1) hlt
        have hs1 := sumTo_succ hlt
        obtain ⟨x, hx⟩ : ∃ x, x = d.2[k] := ⟨_, rfl⟩
        rw [← hx] at q0 q1 hs1
        obtain ⟨p, y⟩ := x
        dsimp only at q0 q1 hs1
        have q0' := cell_below hb1 q0
        have q1' := cell_next (cell_below hb1 q1)
        rw [hs1] at hs
        have hHs := Lib.hid hs1
        generalize sumTo d k = S at *
        clear hs1 hx q0 q1 hcc
        go_wp2
        refine ⟨⟨k + 1, rfl, ?_, hlt, by first | trivial | rfl⟩, by simp [intOf]; omega⟩
        rw [hHs.out]; congr 1; omega
      · obtain rfl : k = d.2.length := by omega
        have hlt' : decide ((d.2.length : Int) < d.2.length) = false := by simp
        have hse : sumTo d d.2.length = (d.2.map fun w => w.2.length).sum := by unfold sumTo; rw [List.take_length]
        have hr2 : r = (1 + sumTo d d.2.length, 0) := by rw [hr, hse]
        have hHr := Lib.hid hr2
        clear hr hr2 hse hcc hsm
        generalize sumTo d d.2.length = S at *
        go_wp2
        go_ret2
        refine ⟨?_, hb1⟩
        rw [hHr.out]
        show Ending.returned (.tuple #[.int .i64 (1 + (S : Int)), .int .i64 0]) = Ending.returned (.tuple #[.int .i64 ((1 + S : Nat) : Int), .int .i64 ((0 : Nat) : Int)])
        rw [Int.natCast_add]; rfl
  · have h0' : ((c1 : Int) == 0) = false := by simp; omega
    rw [if_pos h0] at hr
    subst hr
    clear h0 hgd
    go_enter Try.func32, Try.ntmps32
    go_wp2_with fail
    refine (HC.out _ (hD.out.below hal)).mono ?_
    rintro e w1 ⟨rfl, b1⟩
    go_wp2
    go_ret2
    exact ⟨rfl, hal.trans (b1.mono hal.size)⟩
end Go.Proofs.Ytiemlaofhmncdaa
