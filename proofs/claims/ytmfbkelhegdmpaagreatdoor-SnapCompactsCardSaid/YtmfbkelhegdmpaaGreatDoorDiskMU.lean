/- Texts of small laws, one behind the other. -/
import Derived.Test.YtmfbkelhegdmpaaGreatDoorSumDL
import Derived.Test.YtmfbkelhegdmpaaGreatDoorDiskAW
import Derived.Test.YtmfbkelhegdmpaaGreatDoorDiskY
import Derived.Lib.AppendStr
import Derived.StillTailTactics
import Derived.Deep.RegionLaw
import Derived.Lib.QuoteBits
import Derived.Test.YtmfbkelhegdmpaaGreatDoorDiskGH
/- The walks of laid, Sync, chapter 11 (disk). -/
namespace Go.Proofs.YtmfbkelhegdmpaaGreatDoor
open Go.RowKit Disk11

theorem slice_wr (ac : Option Addr) (m cc n : Nat) (hn : n ≤ cc) (W : World) : (Instr.slice 27 (.slice ac m cc) none (some (.int .i64 (n : Int))) none).run Tryz.prog W = .ok (.slice ac n cc) W := by
  have hu : Tryz.prog.underlying 27 = some (.slice (Tryz.prog.elem 27)) := by kernel_rfl
  have hz : (Go.sizeOf (Tryz.prog.elem 27)).run Tryz.prog W = .ok 2 W := by
    rw [show Tryz.prog.elem 27 = 49 by kernel_rfl]
    exact Tryz.sizeOf49 W
  rw [run_slice_h (P := Tryz.prog) W 27 ac m cc hu .i64 (n : Int) (by omega) (by omega), hz]
  simp only [Result.andThen, sliced, Int.toNat_natCast, Nat.sub_zero, Nat.zero_mul]
  split
  · rfl
  · cases ac <;> simp [Addr.add]
theorem good_at {d : Dev} (h : Disk11.Good d) {k : Nat} (hk : k < d.2.length) : 0 ≤ d.2[k].1 ∧ d.2[k].1.toNat + d.2[k].2.length ≤ 64 * d.1.length := by
  obtain ⟨_, _, _, _, hc⟩ := h
  obtain ⟨_, h1, h2⟩ := hc _ (List.getElem_mem hk)
  unfold Disk11.size at h2
  exact ⟨h1, by omega⟩
theorem chunk_readK {d : Dev} (h : Disk11.Good d) (k : Nat) : (chunk (readK d k)).length = d.1.length ∧ (chunk (readK d k)).flatten = readK d k := by
  have hl := readK_length h k
  exact ⟨by rw [chunk_length, hl]; omega, flatten_chunk hl⟩

/-- The bytes of the first k writes, counted. -/
def sumTo (d : Dev) (k : Nat) : Nat := ((d.2.take k).map fun w => w.2.length).sum
theorem sumTo_succ {d : Dev} {k : Nat} (h : k < d.2.length) : sumTo d (k + 1) = sumTo d k + d.2[k].2.length := by
  unfold sumTo
  rw [List.take_succ_eq_append_getElem h, List.map_append, List.sum_append]
  simp
theorem sums_small {d : Dev} (h : Disk11.Good d) : ∀ k, k ≤ d.2.length → sumTo d k ≤ 262144 * k
  | 0, _ => by simp [sumTo]
  | k + 1, hk => by
    have ih := sums_small h k (by omega)
    have hga := good_at h (k := k) (by omega)
    have := h.2.1
    rw [sumTo_succ (by omega)]; omega
set_option maxHeartbeats 4000000 in
set_option maxRecDepth 100000 in
theorem laid_any (d : Dev) (v : Value) (n : Nat) (w : World) (h : DiskIs w d v) (hg : Disk11.Good d) (hn : n ≤ d.2.length) :
    Calls Tryz.prog 75 #[v, .int .i64 n] w fun e w' => ∃ v', e = .returned v' ∧ w'.ownsRow w.heap.size 9 1 v' d.1.length (strVals (chunk (readK d n))) ∧ Below w.heap.size w w' := by
  obtain ⟨vb, vc, rfl, hb, hc⟩ := h
  obtain ⟨ab, cb, rfl, _⟩ := hb.slice
  obtain ⟨ac, cc, rfl, hcc⟩ := hc.slice
  have hl := hg.2.1
  have hl2 := hg.2.2.2.1
  have HS := Lib.hid (fun W h => cloneS_any d.1 (.slice ab d.1.length cb) W h hl)
  have hsl := slice_wr ac d.2.length cc n (Nat.le_trans hn hcc)
  have hal := Go.Joins.below_alloc1 w (.cells #[.slice ab d.1.length cb, .slice ac d.2.length cc] 29)
  have hk1 := World.alloc_heap_new w (.cells #[.slice ab d.1.length cb, .slice ac d.2.length cc] 29)
  go_enter Tryz.func75, Tryz.ntmps75
  go_wp2_with fail
  refine (HS.out _ (hb.below hal)).mono ?_
  rintro e w1 ⟨v1, rfl, o1, b1⟩
  have hb1 := hal.trans (b1.mono hal.size)
  have k1 := heap_below hk1 b1
  have c0 := cell2_0 k1
  have c1 := cell2_1 k1
  go_wp2
  have hbase : w.heap.size ≤ w1.heap.size := hb1.size
  have o1' := own_lower o1 (B' := w.heap.size) hal.size
  have hfl : (chunk (readK d 0)) = d.1 := by
    unfold readK; rw [List.take_zero]; exact chunk_flatten hg.2.2.1
  have o1' : w1.ownsRow w.heap.size 9 1 v1 d.1.length (strVals (chunk (readK d 0))) := by rw [hfl]; exact o1'
  clear hfl
  go_loopw [16] (fun i wr => ∃ k : Nat, i = .int .i64 k ∧ k ≤ n ∧ wr.ownsRow w.heap.size 9 1 v1 d.1.length (strVals (chunk (readK d k))) ∧ Below w.heap.size w wr) (fun i _ => n - (intOf i).toNat)
  case atStart => exact ⟨0, rfl, Nat.zero_le _, o1', hb1⟩
  case round =>
    obtain ⟨k, rfl, hk, hown, hbl⟩ := hrel
    by_cases hlt : k < n
    · have hlt' : decide ((k : Int) < n) = true := by simp; omega
      have hkd : k < d.2.length := by omega
      obtain ⟨a, rfl, q0⟩ := hc.cell (wrVals_at d.2 k hkd).1
      obtain ⟨a', ha', q1⟩ := hc.cell (wrVals_at d.2 k hkd).2
      cases ha'
      have hga := good_at hg hkd
      have hrs := readK_succ hkd
      have hcr := chunk_readK hg k
      obtain ⟨x, hx⟩ : ∃ x, x = d.2[k] := ⟨_, rfl⟩
      rw [← hx] at q0 q1 hga hrs
      obtain ⟨p, y⟩ := x
      dsimp only at q0 q1 hga hrs
      obtain ⟨hp0, hpf⟩ := hga
      obtain ⟨pn, rfl⟩ : ∃ pn : Nat, p = (pn : Int) := ⟨p.toNat, by omega⟩
      rw [Int.toNat_natCast] at hpf hrs
      have q0' := cell_below hbl q0
      have q1' := cell_next (cell_below hbl q1)
      have ha := Go.Joins.below_alloc1 wr (.cells #[.int .i64 pn, .string ⟨y.toArray⟩] 49)
      have hf := World.alloc_heap_new wr (.cells #[.int .i64 pn, .string ⟨y.toArray⟩] 49)
      have n0 := cell2_0 hf
      have n1 := cell2_1 hf
      have hbl2 := hbl.trans (ha.mono hbl.size)
      have HL := Lib.hid (lay_any (chunk (readK d k)) pn y v1 w.heap.size (wr.alloc (.cells #[.int .i64 pn, .string ⟨y.toArray⟩] 49)) (by rw [hcr.1]; exact World.ownsRow.alloc hown _) (chunk_whole _) (by rw [hcr.1]; exact hpf) (by rw [hcr.1]; exact hl) hbl2.size)
      rw [hcr.1, hcr.2, ← hrs] at HL
      clear hx hrs hcr q0 q1
      go_wp2_with fail
      refine HL.out.mono ?_
      rintro e w2 ⟨rfl, o2, b2, _⟩
      go_wp2
      exact ⟨⟨k + 1, rfl, hlt, o2, hbl2.trans b2⟩, by simp [intOf]; omega⟩
    · obtain rfl : k = n := by omega
      have hlt' : decide ((k : Int) < k) = false := by simp
      go_wp2
      go_ret
      exact ⟨_, rfl, hown, hbl⟩

set_option maxHeartbeats 4000000 in
set_option maxRecDepth 100000 in
theorem Sync_any (d : Dev) (v : Value) (w : World) (h : DiskIs w d v) :
    Calls Tryz.prog 31 #[v] w fun e w' => ∃ v', e = .returned (.tuple #[v', .int .i64 (syncD d).2]) ∧ DiskIs w' (syncD d).1 v' ∧ Below w.heap.size w w' := by
  have HC := Lib.hid (fun W h => Check_any d v W h)
  have HL := Lib.hid (fun n W h hg hn => laid_any d v n W h hg hn)
  have hD := Lib.hid h
  have hgd : (chk d).1 = 0 → Disk11.Good d := fun h => (chk_good d).1 (chk_ok h)
  obtain ⟨r, hr⟩ : ∃ r, r = syncD d := ⟨_, rfl⟩
  rw [← hr]
  unfold syncD at hr
  obtain ⟨c, hc⟩ : ∃ c, c = chk d := ⟨_, rfl⟩
  rw [← hc] at hr hgd HC
  clear hc
  obtain ⟨c1, c2⟩ := c
  dsimp only at hr hgd HC
  obtain ⟨ab, cb, ac, cc, rfl, _, _, _, _⟩ := h.form
  clear h
  by_cases h0 : c1 = 0
  · subst h0
    have hg := hgd rfl
    clear hgd
    rw [if_neg (by simp)] at hr
    have hl2 := hg.2.2.2.1
    go_enter Tryz.func31, Tryz.ntmps31
    go_wp2_with fail
    obtain ⟨k1, k2, hsz, hbl⟩ := alloc2 w (.cells #[.slice ab d.1.length cb, .slice ac d.2.length cc] 29) (.cells #[.slice none 0 0, .slice none 0 0] 29)
    refine (HC.out _ (hD.out.below hbl)).mono ?_
    rintro e w1 ⟨rfl, b1⟩
    have k1' := heap_below k1 b1
    have hb1 := hbl.trans (b1.mono hbl.size)
    have c0 := cell2_0 k1'
    have c1 := cell2_1 k1'
    go_wp2_with fail
    refine (HL.out d.2.length w1 (hD.out.below hb1) hg (Nat.le_refl _)).mono ?_
    rintro e w2 ⟨v2, rfl, o2, b2⟩
    have hb2 := hb1.trans (b2.mono hb1.size)
    obtain ⟨ad, cp, rfl⟩ := own_slice o2
    have k2' := heap_below (heap_below k2 b1) b2
    have r0 := cell2_0 k2'
    have r1 := cell2_1 k2'
    have f0 := frozen2 k2' 0
    have f1 := frozen2 k2' 1
    clear c0 c1
    go_wp2
    have hw1 := b1.size
    have o3 := own_set (b := w.heap.size + 1) (j := 1) (u := .slice none 0 0) (own_set (b := w.heap.size + 1) (j := 0) (u := .slice ad d.1.length cp) o2 (by omega)) (by omega)
    rw [readK_all] at o3
    have hlen : (chunk (readAll d)).length = d.1.length := by rw [← readK_all]; exact (chunk_readK hg _).1
    subst hr
    refine bodyPost_ret (results_cell_tmp rfl _ _ (w.heap.size + 1) _ _ _ _ rfl (set_two k2') Tryz.underlying29 rfl (by kernel_rfl)) rfl ⟨_, rfl, ⟨_, _, rfl, ?_, Row.nil _ _⟩, below_set (below_set hb2 (by omega)) (by omega)⟩
    show Row _ 1 _ (chunk (readAll d)).length _
    rw [hlen]
    exact Row.of_own o3
  · clear HL
    have h0' : ((c1 : Int) == 0) = false := by simp; omega
    rw [if_pos h0] at hr
    subst hr
    clear h0 hgd
    go_enter Tryz.func31, Tryz.ntmps31
    go_wp2_with fail
    obtain ⟨k1, k2, hsz, hbl⟩ := alloc2 w (.cells #[.slice ab d.1.length cb, .slice ac d.2.length cc] 29) (.cells #[.slice none 0 0, .slice none 0 0] 29)
    refine (HC.out _ (hD.out.below hbl)).mono ?_
    rintro e w1 ⟨rfl, b1⟩
    have k2' := heap_below k2 b1
    have r0 := cell2_0 k2'
    have r1 := cell2_1 k2'
    have f0 := frozen2 k2' 0
    have f1 := frozen2 k2' 1
    go_wp2
    refine bodyPost_ret (results_cell_tmp rfl _ _ (w.heap.size + 1) _ _ _ _ rfl (set_two k2') Tryz.underlying29 rfl (by kernel_rfl)) rfl ?_
    exact ⟨_, rfl, DiskIs.none _, below_set (below_set (hbl.trans (b1.mono hbl.size)) (by omega)) (by omega)⟩
end Go.Proofs.YtmfbkelhegdmpaaGreatDoor
/- The walk of the reference's Write, chapter 11 (disk). -/
namespace Go.Proofs.YtmfbkelhegdmpaaGreatDoor
open Go.RowKit Disk11

theorem two_keep {w w' : World} {base e e' size n G : Nat} {v : Value} {xs : List Value} {cs : Array Value} (h : w.ownsRow base e size v n xs) (hg : w.grownBy w' v.ownBlock) (hG : w.heap[G]? = some (.cells cs e' (0, 0))) (hne : e ≠ e') : w'.heap[G]? = some (.cells cs e' (0, 0)) := by
  refine (hg.block G (Array.getElem?_eq_some_iff.1 hG).1 (fun e1 => ?_)).trans hG
  rcases h.2 with ⟨rfl, _⟩ | ⟨g, cap, cur, rfl, _, hh, _⟩
  · simp [Value.ownBlock] at e1
  · simp only [Value.ownBlock, Option.some.injEq] at e1
    subst e1
    rw [hG] at hh; cases hh; exact hne rfl
set_option maxHeartbeats 4000000 in
set_option maxRecDepth 100000 in
theorem RWrite_any (d : Dev) (v : Value) (p : Int) (x : List UInt8) (w : World) (h : DiskIs w d v) :
    Calls Tryz.prog 43 #[v, .int .i64 p, .string ⟨x.toArray⟩] w fun e w' => ∃ v', e = .returned (.tuple #[v', .int .i64 (writeD d p x).2]) ∧ DiskIs w' (writeD d p x).1 v' ∧ Below w.heap.size w w' := by
  have HC := Lib.hid (fun W h => RCheck_any d v W h)
  have HI := Lib.hid (fun W hl => within_any (size d) p x.length W hl)
  have HL := Lib.hid (fun W h hl hl2 => copied_any d v W h hl hl2)
  have hD := Lib.hid h
  have hgd : (chk d).1 = 0 → d.1.length ≤ 4096 ∧ d.2.length ≤ 1000 := fun h => by
    have := (chk_good d).1 (chk_ok h)
    exact ⟨this.2.1, this.2.2.2.1⟩
  obtain ⟨r, hr⟩ : ∃ r, r = writeD d p x := ⟨_, rfl⟩
  rw [← hr]
  unfold writeD at hr
  obtain ⟨c, hc⟩ : ∃ c, c = chk d := ⟨_, rfl⟩
  rw [← hc] at hr hgd HC
  clear hc
  obtain ⟨c1, c2⟩ := c
  dsimp only at hr hgd HC
  obtain ⟨ab, cb, ac, cc, rfl, _, _, hbc, hcc⟩ := h.form
  clear h
  by_cases h0 : c1 = 0
  · subst h0
    obtain ⟨hl, hl2⟩ := hgd rfl
    clear hgd
    rw [if_neg (by simp)] at hr
    clear hbc hcc
    have bad : ∀ w1 W1 (e : Nat), Below w.heap.size w w1 → w1.heap[w.heap.size + 1]? = some (.cells #[.slice none 0 0, .slice none 0 0] 29) → W1 = (w1.setCell ⟨w.heap.size + 1, 0, none⟩ (.slice none 0 0)).setCell ⟨w.heap.size + 1, 1, none⟩ (.slice none 0 0) → r = (none0, e) → ∃ cs, W1.heap[w.heap.size + 1]? = some (.cells cs 29 (0, 0)) ∧ cs.size = 2 ∧ r.2 = e ∧ DiskIs W1 r.1 (.agg cs) ∧ Below w.heap.size w W1 := by
      rintro w1 W1 e hb hk rfl rfl
      exact ⟨_, set_two hk, rfl, rfl, DiskIs.none _, below_set (below_set hb (by omega)) (by omega)⟩
    have hBad := Lib.hid bad
    clear bad
    go_enter Tryz.func43, Tryz.ntmps43
    go_wp2_with fail
    obtain ⟨k1, k2, hsz, hbl⟩ := alloc2 w (.cells #[.slice ab d.1.length cb, .slice ac d.2.length cc] 29) (.cells #[.slice none 0 0, .slice none 0 0] 29)
    refine (HC.out _ (hD.out.below hbl)).mono ?_
    rintro e w1 ⟨rfl, b1⟩
    have k1' := heap_below k1 b1
    have k2' := heap_below k2 b1
    have hb1 := hbl.trans (b1.mono hbl.size)
    have c0 := cell2_0 k1'
    have c1 := cell2_1 k1'
    have r0 := cell2_0 k2'
    have r1 := cell2_1 k2'
    have f0 := frozen2 k2' 0
    have f1 := frozen2 k2' 1
    by_cases hx : x = []
    · subst hx
      have hr2 : r = (none0, 2) := by rw [hr]; rfl
      clear hr
      go_wp2
      obtain ⟨cs, q1, q2, q3, q4, q5⟩ := hBad.out _ _ _ hb1 k2' rfl hr2
      exact bodyPost_ret (results_cell_tmp rfl _ _ (w.heap.size + 1) _ _ _ _ rfl q1 Tryz.underlying29 rfl (by rw [q2]; kernel_rfl)) rfl ⟨_, by rw [q3]; rfl, q4, q5⟩
    · have hx' : x.isEmpty = false := by cases x <;> simp_all
      have hxl : ((x.length : Int) == 0) = false := by cases x <;> simp_all; omega
      have hsz0 : ((size d : Nat) : Int) = 64 * (d.1.length : Int) := by unfold Disk11.size; omega
      rw [hx', Bool.false_or] at hr
      go_wp2_with fail
      have HIn := HI.out w1 (by rw [hsz0]; omega)
      rw [hsz0] at HIn
      refine HIn.mono ?_
      rintro e w2 ⟨rfl, hw⟩
      subst w2
      rw [← hsz0]
      clear hsz0 HIn
      obtain ⟨i, hi⟩ : ∃ i, i = inside (size d) p x.length := ⟨_, rfl⟩
      rw [← hi] at hr ⊢
      clear hi hx
      cases i with
      | false =>
        have hr2 : r = (none0, 2) := by rw [hr]; rfl
        clear hr
        go_wp2
        obtain ⟨cs, q1, q2, q3, q4, q5⟩ := hBad.out _ _ _ hb1 k2' rfl hr2
        exact bodyPost_ret (results_cell_tmp rfl _ _ (w.heap.size + 1) _ _ _ _ rfl q1 Tryz.underlying29 rfl (by rw [q2]; kernel_rfl)) rfl ⟨_, by rw [q3]; rfl, q4, q5⟩
      | true =>
        rw [Bool.not_true, if_neg (by simp)] at hr
        by_cases hfull : 1000 ≤ d.2.length
        · have hf' : ((d.2.length : Int) == 1000) = true := by simp; omega
          rw [if_pos hfull] at hr
          have hr2 := hr
          clear hr hfull
          go_wp2
          obtain ⟨cs, q1, q2, q3, q4, q5⟩ := hBad.out _ _ _ hb1 k2' rfl hr2
          exact bodyPost_ret (results_cell_tmp rfl _ _ (w.heap.size + 1) _ _ _ _ rfl q1 Tryz.underlying29 rfl (by rw [q2]; kernel_rfl)) rfl ⟨_, by rw [q3]; rfl, q4, q5⟩
        · have hf' : ((d.2.length : Int) == 1000) = false := by simp; omega
          rw [if_neg hfull] at hr
          have hr2 := Lib.hid hr
          clear hr hfull
          go_wp2_with fail
          refine (HL.out _ (hD.out.below hb1) hl (by omega)).mono ?_
          rintro e w3 ⟨vb, vc, rfl, ob, oc, b3⟩
          obtain ⟨adb, cpb, rfl⟩ := own_slice ob
          obtain ⟨adc, cpc, rfl⟩ := own_slice oc
          have hb3 := hb1.trans (b3.mono hb1.size)
          have j2 := heap_below k2' b3
          clear c0 c1 r0 r1 f0 f1
          have hw2 : w.heap.size + 2 ≤ w1.heap.size := by
            have := b1.size; omega
          have oc4 := World.ownsRow.alloc oc (.cells #[.slice adb d.1.length cpb, .slice adc d.2.length cpc] 29)
          have ob4 := World.ownsRow.alloc ob (.cells #[.slice adb d.1.length cpb, .slice adc d.2.length cpc] 29)
          have j1' := World.alloc_heap_new w3 (.cells #[.slice adb d.1.length cpb, .slice adc d.2.length cpc] 29)
          have j2' := heap_below j2 (Go.Joins.below_alloc1 w3 (.cells #[.slice adb d.1.length cpb, .slice adc d.2.length cpc] 29))
          have hb4 := hb3.alloc hb3.size (.cells #[.slice adb d.1.length cpb, .slice adc d.2.length cpc] 29)
          have hw3 := b3.size
          obtain ⟨i0, hi0, hz0, hz1, hz2⟩ := info_parts infoWr
          have hs4 : w1.heap.size ≤ (w3.alloc (.cells #[.slice adb d.1.length cpb, .slice adc d.2.length cpc] 29)).heap.size := Nat.le_trans b3.size (by simp)
          have c0 := cell2_0 j1'
          have c1 := cell2_1 j1'
          go_wp2_with (at_builtin; refine wpList_append_own _ rfl _ _ 27 rfl w1.heap.size 49 i0 (.agg #[.int .i64 0, .string ⟨#[]⟩]) 2 24 Tryz.underlying27 hi0 hz0 hz1 hz2 rfl (by decide) _ _ _ rfl (World.ownsRow.alloc oc4 _) ⟨(w3.alloc (.cells #[.slice adb d.1.length cpb, .slice adc d.2.length cpc] 29)).heap.size, 0, none⟩ 1 1 [.int .i64 p, .string ⟨x.toArray⟩] (by simp [go_sem]) rfl (cell_two_new _ _ _ _) (by intro u hu; simp at hu; rcases hu with rfl | rfl <;> rfl) (by unfold maxLen; omega) (by omega) (Nat.le_trans hs4 (by simp)) ?_; intro v5 w5 o5 g5 _
                       have ob5 := own_two (World.ownsRow.alloc ob4 (.cells #[.int .i64 p, .string ⟨x.toArray⟩] 49)) (World.ownsRow.alloc oc4 (.cells #[.int .i64 p, .string ⟨x.toArray⟩] 49)) g5 (by decide)
                       have b5 := ((Below.refl w1.heap.size (w3.alloc (.cells #[.slice adb d.1.length cpb, .slice adc d.2.length cpc] 29))).alloc hs4 (.cells #[.int .i64 p, .string ⟨x.toArray⟩] 49)).grown g5 (Nat.le_trans hs4 (by simp)) (fun k hk => (World.ownsRow.lt oc4 k hk).1)
                       have l1 := two_keep (World.ownsRow.alloc oc4 (.cells #[.int .i64 p, .string ⟨x.toArray⟩] 49)) g5 (heap_below j1' (Go.Joins.below_alloc1 _ (.cells #[.int .i64 p, .string ⟨x.toArray⟩] 49))) (by decide)
                       obtain ⟨ad5, cp5, rfl⟩ := own_slice o5
                       have l2 := (b5.block _ (by omega)).trans j2'
                       have c0' := cell2_0 l1
                       have c1' := cell2_1 l1
                       have g0' := frozen2 l1 0
                       have g1' := frozen2 l1 1
                       have r0' := cell2_0 l2
                       have r1' := cell2_1 l2
                       have f0' := frozen2 l2 0
                       have f1' := frozen2 l2 1)
          have hne : w.heap.size + 1 ≠ w3.heap.size := by omega
          have l3 := set_two (x' := .slice adb d.1.length cpb) (y' := .slice ad5 (d.2.length + 1) cp5) (one_other (b := w3.heap.size) (j := 1) (u := .slice ad5 (d.2.length + 1) cp5) hne l2)
          have t1 := own_set (b := w.heap.size + 1) (j := 1) (u := .slice ad5 (d.2.length + 1) cp5) (own_set (b := w.heap.size + 1) (j := 0) (u := .slice adb d.1.length cpb) (own_tag ob5 (grown_cell w5 w3.heap.size 1 (.slice ad5 (d.2.length + 1) cp5)) l1 (by decide)) (by omega)) (by omega)
          have t2 := own_set (b := w.heap.size + 1) (j := 1) (u := .slice ad5 (d.2.length + 1) cp5) (own_set (b := w.heap.size + 1) (j := 0) (u := .slice adb d.1.length cpb) (own_tag o5 (grown_cell w5 w3.heap.size 1 (.slice ad5 (d.2.length + 1) cp5)) l1 (by decide)) (by omega)) (by omega)
          rw [wrVals_snoc] at t2
          have bf := below_set (b := w.heap.size + 1) (j := 1) (u := .slice ad5 (d.2.length + 1) cp5) (below_set (b := w.heap.size + 1) (j := 0) (u := .slice adb d.1.length cpb) (below_set (b := w3.heap.size) (j := 1) (u := .slice ad5 (d.2.length + 1) cp5) (hb4.trans (b5.mono (by omega))) hb3.size) (by omega)) (by omega)
          have hr3 := hr2.out
          subst hr3
          refine bodyPost_ret (results_cell_tmp rfl _ _ (w.heap.size + 1) _ _ _ _ rfl l3 Tryz.underlying29 rfl (by kernel_rfl)) rfl ⟨_, rfl, ⟨_, _, rfl, Row.of_own t1, ?_⟩, bf⟩
          show Row _ 2 _ (d.2 ++ [(p, x)]).length _
          rw [List.length_append]
          exact Row.of_own t2
  · have h0' : ((c1 : Int) == 0) = false := by simp; omega
    rw [if_pos h0] at hr
    subst hr
    clear h0 hgd hbc hcc
    go_enter Tryz.func43, Tryz.ntmps43
    go_wp2_with fail
    obtain ⟨k1, k2, hsz, hbl⟩ := alloc2 w (.cells #[.slice ab d.1.length cb, .slice ac d.2.length cc] 29) (.cells #[.slice none 0 0, .slice none 0 0] 29)
    refine (HC.out _ (hD.out.below hbl)).mono ?_
    rintro e w1 ⟨rfl, b1⟩
    have k2' := heap_below k2 b1
    have r0 := cell2_0 k2'
    have r1 := cell2_1 k2'
    have f0 := frozen2 k2' 0
    have f1 := frozen2 k2' 1
    go_wp2
    refine bodyPost_ret (results_cell_tmp rfl _ _ (w.heap.size + 1) _ _ _ _ rfl (set_two k2') Tryz.underlying29 rfl (by kernel_rfl)) rfl ?_
    exact ⟨_, rfl, DiskIs.none _, below_set (below_set (hbl.trans (b1.mono hbl.size)) (by omega)) (by omega)⟩
end Go.Proofs.YtmfbkelhegdmpaaGreatDoor
/- The walks of the reference's bytes, laid, read, chapter 11 (disk). -/
namespace Go.Proofs.YtmfbkelhegdmpaaGreatDoor
open Go.RowKit Disk11

/-- A store into a row of the call's own. -/
theorem own_put {w : World} {base e n g cap k : Nat} {xs : List Value} (h : w.ownsRow base e 1 (.slice (some ⟨g, 0, none⟩) n cap) n xs) (u : Value) : (w.setCell ⟨g, k, none⟩ u).ownsRow base e 1 (.slice (some ⟨g, 0, none⟩) n cap) n (xs.set k u) := by
  refine ⟨by rw [List.length_set]; exact h.1, ?_⟩
  rcases h.2 with ⟨h1, _⟩ | ⟨g', cap', cur, h1, hb, hg, hn, hm, hc, ht⟩
  · cases h1
  · cases h1
    refine .inr ⟨g, cap, _, rfl, hb, Lib.heap_setCell_same (i := k) hg u, hn, hm, by simpa using hc, ?_⟩
    rw [Array.toList_setIfInBounds, List.take_set, ht]
theorem own_frozen {w : World} {base e n g cap : Nat} {xs : List Value} (h : w.ownsRow base e 1 (.slice (some ⟨g, 0, none⟩) n cap) n xs) (k : Nat) : w.frozen? ⟨g, k, none⟩ = false := by
  rcases h.2 with ⟨h1, _⟩ | ⟨g', cap', cur, h1, hb, hg, hn, hm, hc, ht⟩
  · cases h1
  · cases h1
    simp [World.frozen?, hg]
theorem layF_set {l x : List UInt8} {p k : Nat} (hk : k < x.length) (hf : p + x.length ≤ l.length) : (layF l p (x.take k)).set (p + k) x[k] = layF l p (x.take (k + 1)) := by
  have h1 : (x.take k).length = k := by rw [List.length_take]; omega
  have h2 : (x.take (k + 1)).length = k + 1 := by rw [List.length_take]; omega
  have hl : (layF l p (x.take k)).length = l.length := layF_length (by omega)
  apply List.ext_getElem?
  intro i
  rw [layF_get (by omega)]
  by_cases hi : i = p + k
  · subst hi
    rw [List.getElem?_set_self (by omega), if_pos (by omega), Nat.add_sub_cancel_left, List.getElem?_take_of_lt (by omega), List.getElem?_eq_getElem hk]
  · rw [List.getElem?_set_ne (by omega), layF_get (by omega), h1, h2]
    by_cases h3 : p ≤ i ∧ i < p + k
    · rw [if_pos h3, if_pos (by omega), List.getElem?_take_of_lt (by omega), List.getElem?_take_of_lt (by omega)]
    · rw [if_neg h3, if_neg (by omega)]

set_option maxHeartbeats 4000000 in
set_option maxRecDepth 100000 in
theorem laidR_any (l x : List UInt8) (p : Nat) (v : Value) (base : Nat) (w : World) (hv : Buf w base v l) (hf : p + x.length ≤ l.length) (hl : l.length ≤ 4398046511104) :
    Calls Tryz.prog 121 #[v, .int .i64 p, .string ⟨x.toArray⟩] w fun e w' => e = .returned v ∧ Buf w' base v (layF l p x) ∧ Below base w w' ∧ w.grownBy w' v.ownBlock := by
  go_enter Tryz.func121, Tryz.ntmps121
  go_wp2
  go_loopw [7] (fun i wr => ∃ k : Nat, i = .int .i64 k ∧ k ≤ x.length ∧ Buf wr base v (layF l p (x.take k)) ∧ Below base w wr ∧ w.grownBy wr v.ownBlock) (fun i _ => x.length - (intOf i).toNat)
  case atStart => exact ⟨0, rfl, Nat.zero_le _, by rw [List.take_zero, layF_nil]; exact hv, Below.refl _ _, ⟨rfl, rfl, rfl, Nat.le_refl _, fun _ _ _ => rfl⟩⟩
  case round =>
    obtain ⟨k, rfl, hk, hown, hbl, hgr⟩ := hrel
    by_cases hlt : k < x.length
    · have hlt' : decide ((k : Int) < x.length) = true := by simp; omega
      have hnl : (layF l p (x.take k)).length = l.length := layF_length (by rw [List.length_take]; omega)
      have hst := layF_set hlt hf
      obtain ⟨c, hc⟩ : ∃ c, c = x[k] := ⟨_, rfl⟩
      rw [← hc] at hst
      obtain ⟨g, cap, hvf, hbg⟩ : ∃ g cap, v = .slice (some ⟨g, 0, none⟩) (layF l p (x.take k)).length cap ∧ base ≤ g := by
        rcases hown.form with ⟨_, h0⟩ | h
        · rw [h0] at hnl; simp at hnl; omega
        · exact h
      rw [hnl] at hvf
      subst hvf
      have hown2 := hown
      unfold Buf at hown2
      rw [hnl] at hown2
      have hcc := World.ownsRow.cellAt hown2 (p + k) (by omega)
      rw [byteVals_get, List.getElem?_eq_getElem (by omega)] at hcc
      generalize (layF l p (x.take k))[p + k]'(by omega) = c0 at hcc
      have hfz := own_frozen hown2 (p + k)
      have hput := own_put (k := p + k) hown2 (.int .u8 (c.toNat : Int))
      rw [show (byteVals (layF l p (x.take k))).set (p + k) (.int .u8 (c.toNat : Int)) = byteVals (layF l p (x.take (k + 1))) by rw [← hst]; unfold byteVals; rw [List.map_set]] at hput
      have hnl2 : (layF l p (x.take (k + 1))).length = l.length := layF_length (by rw [List.length_take]; omega)
      have hcb : ∀ h, (⟨x.toArray⟩ : ByteArray)[k]'h = c := fun h => by rw [hc]; rfl
      have hHc := Lib.hid hcb
      clear hc hst hcb
      go_wp2
      rw [hHc.out]
      have hb2 := below_set (b := g) (j := p + k) (u := .int .u8 (c.toNat : Int)) hbl hbg
      refine ⟨⟨k + 1, rfl, hlt, ?_, hb2, ?_⟩, by simp [intOf]; omega⟩
      · unfold Buf; rw [hnl2]; exact hput
      · exact ⟨hb2.os, hb2.tape, hb2.output, hb2.size, fun j hj hjg => ((grown_cell wr g (p + k) _).block j (Nat.lt_of_lt_of_le hj hgr.size) hjg).trans (hgr.block j hj hjg)⟩
    · obtain rfl : k = x.length := by omega
      have hlt' : decide ((x.length : Int) < x.length) = false := by simp
      rw [List.take_length] at hown
      go_wp2
      go_ret
      exact ⟨rfl, hown, hbl, hgr⟩

set_option maxHeartbeats 4000000 in
set_option maxRecDepth 100000 in
theorem bytesR_any (d : Dev) (v : Value) (w : World) (h : DiskIs w d v) (hg : Disk11.Good d) :
    Calls Tryz.prog 120 #[v] w fun e w' => ∃ v', e = .returned v' ∧ Buf w' w.heap.size v' d.1.flatten ∧ Below w.heap.size w w' := by
  obtain ⟨ab, cb, ac, cc, rfl, _, _, hbc, _⟩ := h.form
  have hal := Go.Joins.below_alloc1 w (.cells #[.slice ab d.1.length cb, .slice ac d.2.length cc] 29)
  have hk1 := World.alloc_heap_new w (.cells #[.slice ab d.1.length cb, .slice ac d.2.length cc] 29)
  have hl := hg.2.1
  have hw := hg.2.2.1
  obtain ⟨i0, hi, hz0, hz1, hz2⟩ := info_parts infoU8
  go_enter Tryz.func120, Tryz.ntmps120
  go_wp2
  have hsz0 : w.heap.size ≤ (w.alloc (.cells #[.slice ab d.1.length cb, .slice ac d.2.length cc] 29)).heap.size := hal.size
  go_loopw [3, 4] (fun o i wr => ∃ k : Nat, i = .int .i64 k ∧ k ≤ d.1.length ∧ wr.ownsRow (w.heap.size + 1) 5 1 o (64 * k) (byteVals (d.1.take k).flatten) ∧ Below (w.heap.size + 1) (w.alloc (.cells #[.slice ab d.1.length cb, .slice ac d.2.length cc] 29)) wr) (fun _ i _ => d.1.length - (intOf i).toNat)
  case atStart => exact ⟨0, rfl, Nat.zero_le _, World.ownsRow_nil _ _ _ _, Below.refl _ _⟩
  case round =>
    obtain ⟨k, rfl, hk, hown, hbl⟩ := hrel
    have hkw : wr.heap[w.heap.size]? = some (.cells #[.slice ab d.1.length cb, .slice ac d.2.length cc] 29) := (hbl.block _ (by omega)).trans hk1
    have c0 := cell2_0 hkw
    have c1 := cell2_1 hkw
    have hbw : Below w.heap.size w wr := hal.trans (hbl.mono (by omega))
    have hsw : w.heap.size + 1 ≤ wr.heap.size := by have := hbl.size; simp at this; omega
    by_cases hlt : k < d.1.length
    · have hlt' : decide ((k : Int) < d.1.length) = true := by simp; omega
      obtain ⟨a, rfl, q0⟩ := hbc k hlt
      have hB64 := hw _ (List.getElem_mem hlt)
      have hfl : (d.1.take (k + 1)).flatten = (d.1.take k).flatten ++ d.1[k] := by
        rw [List.take_succ_eq_append_getElem hlt, List.flatten_append]; simp
      obtain ⟨B, hB⟩ : ∃ B, B = d.1[k] := ⟨_, rfl⟩
      rw [← hB] at q0 hB64 hfl
      have q0' := cell_below hbw q0
      have hHf := Lib.hid hfl
      clear hB hfl q0 hbc
      go_wp2_with (at_builtin; refine Lib.wpList_append_own_string _ rfl _ _ 52 9 rfl (w.heap.size + 1) 5 i0 Tryz.underlying52 Tryz.underlying9 hi hz0 hz1 hz2 _ _ _ rfl hown ⟨B.toArray⟩ rfl (by show _ + B.length ≤ _; unfold maxLen; omega) (by show _ + B.length ≤ _; omega) hsw ?_; intro v1 w1 o1 g1 _)
      have hbl2 := hbl.grown g1 (Nat.le_trans (by simp) hbl.size) (fun j e => (World.ownsRow.lt hown j e).1)
      have e1 : 64 * k + (⟨B.toArray⟩ : ByteArray).size = 64 * (k + 1) := by show 64 * k + B.length = _; omega
      have e2 : byteVals (d.1.take k).flatten ++ Lib.strCells ⟨B.toArray⟩ = byteVals (d.1.take (k + 1)).flatten := by rw [hHf.out, byteVals_append]; rfl
      rw [e1, e2] at o1
      all_goals go_wp2
      exact ⟨⟨k + 1, rfl, hlt, o1, hbl2⟩, by simp [intOf]; omega⟩
    · obtain rfl : k = d.1.length := by omega
      have hlt' : decide ((d.1.length : Int) < d.1.length) = false := by simp
      rw [List.take_length] at hown
      go_wp2
      go_ret
      refine ⟨_, rfl, ?_, hbw⟩
      unfold Buf
      rw [flatten_length hw]
      exact own_lower hown (by omega)
end Go.Proofs.YtmfbkelhegdmpaaGreatDoor
/- The walks of the reference's read and device, chapter 11 (disk). -/
namespace Go.Proofs.YtmfbkelhegdmpaaGreatDoor
open Go.RowKit Disk11

theorem Buf.lower {w : World} {B B' : Nat} {v : Value} {l : List UInt8} (h : Buf w B v l) (hB : B' ≤ B) : Buf w B' v l := own_lower h hB

/-- 'b[p : p+n]' and 'string' of it. -/
theorem slice_buf {w : World} {base : Nat} {v : Value} {l : List UInt8} (h : Buf w base v l) (p n : Nat) (hf : p + n ≤ l.length) : ∃ v', (∀ W, (Instr.slice 52 v (some (.int .i64 (p : Int))) (some (.int .i64 ((p : Int) + (n : Int)))) none).run Tryz.prog W = .ok v' W) ∧
    (convert 52 9 v').run Tryz.prog w = .ok (.string ⟨((l.drop p).take n).toArray⟩) w := by
  obtain ⟨ad, c, hv, hc, hcell⟩ : ∃ ad c, v = .slice ad l.length c ∧ l.length ≤ c ∧ (∀ j (hj : j < l.length), ∃ g, ad = some ⟨g, 0, none⟩ ∧ w.cell? ⟨g, j, none⟩ = some (.int .u8 (l[j].toNat : Int))) := by
    have h' := h
    rcases h'.2 with ⟨hv, h0⟩ | ⟨g, cap, cur, hv, _, _, hn, _⟩
    · refine ⟨_, _, by rw [hv, h0], by omega, fun j hj => by omega⟩
    · subst hv
      exact ⟨_, _, rfl, hn, fun j hj => ⟨g, rfl, h.cell j hj⟩⟩
  subst hv
  have hu : Tryz.prog.underlying 52 = some (.slice (Tryz.prog.elem 52)) := by kernel_rfl
  have hz : ∀ W, (Go.sizeOf (Tryz.prog.elem 52)).run Tryz.prog W = .ok 1 W := by
    rw [show Tryz.prog.elem 52 = 5 by kernel_rfl]
    exact Tryz.sizeOf5
  refine ⟨sliced ad p (p + n) c 1, fun W => ?_, ?_⟩
  · rw [run_slice_lh (P := Tryz.prog) W 52 ad l.length c hu .i64 .i64 (p : Int) ((p : Int) + (n : Int)) (by omega) (by omega) (by omega), hz]
    simp only [Result.andThen, Int.toNat_natCast]
    rw [show ((p : Int) + (n : Int)).toNat = p + n by omega]
  · have hlen : ((l.drop p).take n).length = n := by rw [List.length_take, List.length_drop]; omega
    unfold sliced
    by_cases hn0 : n = 0
    · subst hn0
      have hcv : ∀ (a : Option Addr) (c' : Nat), (convert 52 9 (.slice a 0 c')).run Tryz.prog w = .ok (.string ⟨#[]⟩) w := by
        intro a c'
        have := run_convert_bytes_string (P := Tryz.prog) w 52 9 5 a 0 c' Tryz.underlying52 Tryz.underlying5 Tryz.underlying9
        rw [this]
        cases a <;> rfl
      rw [show p + 0 - p = 0 by omega, hcv]
      simp
    · obtain ⟨g, rfl, _⟩ := hcell p (by omega)
      rw [if_neg (by omega), show p + n - p = n by omega]
      simp only [Option.map_some, Nat.mul_one, addr_add]
      have := run_convert_bytes_back (P := Tryz.prog) w 52 9 5 ⟨g, p, none⟩ (c - p) ((l.drop p).take n) Tryz.underlying52 Tryz.underlying5 Tryz.underlying9 (fun j hj => by
        have hj' : j < n := by omega
        obtain ⟨g', e, hcc⟩ := hcell (p + j) (by omega)
        cases e
        rw [show (⟨g, p, none⟩ : Addr).add j = ⟨g, p + j, none⟩ from by by_cases h : j = 0 <;> simp [Addr.add, h], hcc]
        simp)
      rw [hlen] at this
      exact this

set_option maxHeartbeats 4000000 in
set_option maxRecDepth 100000 in
theorem readR_any (d : Dev) (v : Value) (w : World) (h : DiskIs w d v) (hg : Disk11.Good d) :
    Calls Tryz.prog 88 #[v] w fun e w' => ∃ v', e = .returned v' ∧ Buf w' w.heap.size v' (readAll d) ∧ Below w.heap.size w w' := by
  have HB := Lib.hid (fun W h => bytesR_any d v W h hg)
  have hD := Lib.hid h
  obtain ⟨ab, cb, ac, cc, rfl, _, _, _, hcc⟩ := h.form
  clear h
  have hal := Go.Joins.below_alloc1 w (.cells #[.slice ab d.1.length cb, .slice ac d.2.length cc] 29)
  have hk1 := World.alloc_heap_new w (.cells #[.slice ab d.1.length cb, .slice ac d.2.length cc] 29)
  have hs1 : (w.alloc (.cells #[.slice ab d.1.length cb, .slice ac d.2.length cc] 29)).heap.size = w.heap.size + 1 := World.size_alloc ..
  have hl := hg.2.1
  have hl2 := hg.2.2.2.1
  go_enter Tryz.func88, Tryz.ntmps88
  go_wp2_with fail
  refine (HB.out _ (hD.out.below hal)).mono ?_
  rintro e w1 ⟨v1, rfl, o1, b1⟩
  rw [hs1] at o1 b1
  go_wp2
  go_loopw [3, 4] (fun b i wr => ∃ k : Nat, b = v1 ∧ i = .int .i64 k ∧ k ≤ d.2.length ∧ Buf wr (w.heap.size + 1) v1 (readK d k) ∧ Below (w.heap.size + 1) (w.alloc (.cells #[.slice ab d.1.length cb, .slice ac d.2.length cc] 29)) wr) (fun _ i _ => d.2.length - (intOf i).toNat)
  case atStart => exact ⟨0, rfl, rfl, Nat.zero_le _, by unfold readK; rw [List.take_zero]; exact o1, b1⟩
  case round =>
    obtain ⟨k, rfl, rfl, hk, hown, hbl⟩ := hrel
    have hkw : wr.heap[w.heap.size]? = some (.cells #[.slice ab d.1.length cb, .slice ac d.2.length cc] 29) := (hbl.block _ (by omega)).trans hk1
    have c0 := cell2_0 hkw
    have c1 := cell2_1 hkw
    have hbw : Below w.heap.size w wr := hal.trans (hbl.mono (by omega))
    by_cases hlt : k < d.2.length
    · have hlt' : decide ((k : Int) < d.2.length) = true := by simp; omega
      obtain ⟨a, rfl, q0, q1⟩ := hcc k hlt
      have hga := good_at hg hlt
      have hrs := readK_succ hlt
      have hrl := readK_length hg k
      obtain ⟨x, hx⟩ : ∃ x, x = d.2[k] := ⟨_, rfl⟩
      rw [← hx] at q0 q1 hga hrs
      obtain ⟨p, y⟩ := x
      dsimp only at q0 q1 hga hrs
      obtain ⟨hp0, hpf⟩ := hga
      obtain ⟨pn, rfl⟩ : ∃ pn : Nat, p = (pn : Int) := ⟨p.toNat, by omega⟩
      rw [Int.toNat_natCast] at hpf hrs
      have q0' := cell_below hbw q0
      have q1' := cell_next (cell_below hbw q1)
      have HL := Lib.hid (laidR_any (readK d k) y pn _ (w.heap.size + 1) wr.drew (Buf.drew hown) (by rw [hrl]; exact hpf) (by rw [hrl]; omega))
      rw [← hrs] at HL
      clear hx hrs q0 q1 hcc
      go_wp2
      go_still_tail 13, (by kernel_rfl)
      change wpList _ _ _ _ _ wr.drew
      go_wp2_with fail
      refine HL.out.mono ?_
      rintro e w2 ⟨rfl, o2, b2, _⟩
      all_goals go_wp2
      exact ⟨⟨k + 1, rfl, rfl, hlt, o2, hbl.drew.trans b2⟩, by simp [intOf]; omega⟩
    · obtain rfl : k = d.2.length := by omega
      have hlt' : decide ((d.2.length : Int) < d.2.length) = false := by simp
      rw [readK_all] at hown
      go_wp2
      go_ret
      exact ⟨_, rfl, hown.lower (by omega), hbw⟩

set_option maxHeartbeats 4000000 in
set_option maxRecDepth 100000 in
theorem RRead_any (d : Dev) (v : Value) (p n : Int) (w : World) (h : DiskIs w d v) :
    Calls Tryz.prog 101 #[v, .int .i64 p, .int .i64 n] w fun e w' => e = .returned (.tuple #[.string ⟨(readD d p n).1.toArray⟩, .int .i64 (readD d p n).2]) ∧ Below w.heap.size w w' := by
  have HC := Lib.hid (fun W h => RCheck_any d v W h)
  have HR := Lib.hid (fun W h hg => readR_any d v W h hg)
  have hD := Lib.hid h
  have hgd : (chk d).1 = 0 → Disk11.Good d := fun h => (chk_good d).1 (chk_ok h)
  obtain ⟨r, hr⟩ : ∃ r, r = readD d p n := ⟨_, rfl⟩
  rw [← hr]
  unfold readD at hr
  obtain ⟨c, hc⟩ : ∃ c, c = chk d := ⟨_, rfl⟩
  rw [← hc] at hr hgd HC
  clear hc
  obtain ⟨c1, c2⟩ := c
  dsimp only at hr hgd HC
  obtain ⟨ab, cb, ac, cc, rfl, _, _, _, _⟩ := h.form
  clear h
  have hal := Go.Joins.below_alloc1 w (.cells #[.slice ab d.1.length cb, .slice ac d.2.length cc] 29)
  have hk1 := World.alloc_heap_new w (.cells #[.slice ab d.1.length cb, .slice ac d.2.length cc] 29)
  by_cases h0 : c1 = 0
  · subst h0
    have hg := hgd rfl
    clear hgd
    rw [if_neg (by simp)] at hr
    have hl := hg.2.1
    have hsz0 : ((size d : Nat) : Int) = 64 * (d.1.length : Int) := by unfold Disk11.size; omega
    have hin := inside_iff (size d) p n
    have hra := readAll_length hg
    obtain ⟨ra, hrae⟩ : ∃ ra, ra = readAll d := ⟨_, rfl⟩
    rw [← hrae] at hr hra
    have HI := Lib.hid (fun W => within_any (size d) p n W (by rw [hsz0]; omega))
    obtain ⟨i, hi⟩ : ∃ i, i = inside (size d) p n := ⟨_, rfl⟩
    rw [← hi] at hr hin HI
    rw [hsz0] at HI hin
    have hHra := Lib.hid hrae
    clear hi hsz0 hrae
    go_enter Tryz.func101, Tryz.ntmps101
    go_wp2_with fail
    refine (HC.out _ (hD.out.below hal)).mono ?_
    rintro e w1 ⟨rfl, b1⟩
    have k1 := heap_below hk1 b1
    have hb1 := hal.trans (b1.mono hal.size)
    have c0 := cell2_0 k1
    have c1 := cell2_1 k1
    go_wp2_with fail
    refine (HI.out _).mono ?_
    rintro e w2 ⟨rfl, hw⟩
    subst w2
    cases i with
    | false =>
      rw [if_pos rfl] at hr
      subst hr
      clear hin
      go_wp2
      go_ret2
      exact ⟨rfl, hb1⟩
    | true =>
      rw [if_neg (by simp)] at hr
      obtain ⟨h1, h2, h3, h4⟩ := hin.1 rfl
      clear hin
      obtain ⟨pn, rfl⟩ : ∃ pn : Nat, p = (pn : Int) := ⟨p.toNat, by omega⟩
      obtain ⟨nn, rfl⟩ : ∃ nn : Nat, n = (nn : Int) := ⟨n.toNat, by omega⟩
      rw [Int.toNat_natCast, Int.toNat_natCast] at hr
      have hfit : pn + nn ≤ ra.length := by omega
      have hHr := Lib.hid hr
      clear hr h1 h2 h3 h4
      go_wp2_with fail
      refine (HR.out w1 (hD.out.below hb1) hg).mono ?_
      rintro e w2 ⟨v2, rfl, o2, b2⟩
      rw [← hHra.out] at o2
      obtain ⟨v3, hs3, hcv⟩ := slice_buf o2 pn nn hfit
      go_wp2
      have hr := hHr.out
      subst hr
      go_ret2
      exact ⟨rfl, hb1.trans (b2.mono hb1.size)⟩
  · have h0' : ((c1 : Int) == 0) = false := by simp; omega
    rw [if_pos h0] at hr
    subst hr
    clear h0 hgd
    go_enter Tryz.func101, Tryz.ntmps101
    go_wp2_with fail
    refine (HC.out _ (hD.out.below hal)).mono ?_
    rintro e w1 ⟨rfl, b1⟩
    go_wp2
    go_ret2
    exact ⟨rfl, hal.trans (b1.mono hal.size)⟩
end Go.Proofs.YtmfbkelhegdmpaaGreatDoor
/- Appending a text to a slice of texts; the blocks of bytes step by step. -/
namespace Go.Proofs.YtmfbkelhegdmpaaGreatDoor
open Go.RowKit Disk11

theorem chunk_take (l : List UInt8) (k : Nat) (hk : k < l.length / 64) : (chunk l).take (k + 1) = (chunk l).take k ++ [(l.drop (64 * k)).take 64] := by
  have hk' : k < (chunk l).length := by rw [chunk_length]; exact hk
  rw [List.take_succ_eq_append_getElem hk']
  congr 2
  have := chunk_get l k hk
  rw [List.getElem?_eq_getElem hk'] at this
  exact Option.some.inj this

set_option maxRecDepth 100000 in
/-- 'append(rows, x)', x one text, as one step of a region that draws its order. -/
theorem step_app_str {ops : Array Oper} {o : Oper} {a : Act} {W : World} {K : Act → World → Prop} {Q : Exit → Act → World → Prop} {E : Prop} {s x : Operand} {v : Value} {l : List (List UInt8)} {n : List UInt8} {g0 : Nat} (hgd : o.guard = none)
    (ho : o.op = .call { callee := .builtin .append, args := #[s, x], argTypes := #[26, 26] })
    (base : Nat) (hs : a.eval s = v) (hown : Txt W base v l) (hx : a.eval x = .slice (some ⟨g0, 0, none⟩) 1 1) (hcell : W.cell? ⟨g0, 0, none⟩ = some (.string ⟨n.toArray⟩))
    (hlen : l.length < 4398046511104) (hbase : base ≤ W.heap.size)
    (h : ∀ g cap w', Txt w' base (.slice (some ⟨g, 0, none⟩) (l.length + 1) cap) (l ++ [n]) → Below base W w' → base ≤ g → K (a.put o.dst (.slice (some ⟨g, 0, none⟩) (l.length + 1) cap)) w') :
    if Region.wanted o (yielded ops a.tmps) = true then Oper.wp Tryz.prog o a W K Q else E := by
  have hw : Region.wanted o (yielded ops a.tmps) = true := by simp [Region.wanted, hgd]
  rw [if_pos hw]
  obtain ⟨i0, hi, hz0, hz1, hz2⟩ := info_parts infoStr
  have hnews : ∀ j u, [Value.string ⟨n.toArray⟩][j]? = some u → W.cell? ((⟨g0, 0, none⟩ : Addr).add j) = some u := by
    intro j u hj
    match j, hj with
    | 0, hj => simp at hj; subst hj; rw [addr_add]; exact hcell
  refine wp_append_own _ s x 26 ho base 9 i0 (.string ⟨#[]⟩) 1 16 Tryz.underlying26 hi hz0 hz1 hz2 rfl (by decide) v _ _ hs hown ⟨g0, 0, none⟩ 1 1 [.string ⟨n.toArray⟩] hx rfl
    hnews (by intro u hu; simp at hu; subst hu; rfl) (by unfold maxLen; omega) (by omega) hbase ?_
  intro v' w' hown' hgrow _
  have e : strVals l ++ [.string ⟨n.toArray⟩] = strVals (l ++ [n]) := by rw [strVals_append]; rfl
  rw [e] at hown'
  have hbuf : Txt w' base v' (l ++ [n]) := by unfold Txt; rw [List.length_append]; exact hown'
  have hb : Below base W w' := (Below.refl base W).grown hgrow hbase (fun k hk => (World.ownsRow.lt hown k hk).1)
  rcases hbuf.form with ⟨_, hn⟩ | ⟨g, cap, rfl, hg⟩
  · simp at hn
  · rw [List.length_append] at hbuf ⊢
    exact h g cap w' hbuf hb hg
end Go.Proofs.YtmfbkelhegdmpaaGreatDoor
/- The walks of the reference's device, Sync, Crash, chapter 11 (disk). -/
namespace Go.Proofs.YtmfbkelhegdmpaaGreatDoor
open Go.RowKit Disk11

set_option maxHeartbeats 4000000 in
set_option maxRecDepth 100000 in
theorem deviceR_any (l : List UInt8) (m : Nat) (hm : l.length = 64 * m) (hm2 : m ≤ 4096) (v : Value) (base : Nat) (w : World) (hv : Buf w base v l) :
    Calls Tryz.prog 87 #[v] w fun e w' => ∃ vb, e = .returned (.agg #[vb, .slice none 0 0]) ∧ w'.ownsRow w.heap.size 9 1 vb m (strVals (chunk l)) ∧ Below w.heap.size w w' := by
  have hform : ∃ ad c, v = .slice ad l.length c := by
    rcases hv.form with ⟨h1, h2⟩ | ⟨g, cap, h1, _⟩
    · exact ⟨_, _, by rw [h1, h2]; rfl⟩
    · exact ⟨_, _, h1⟩
  obtain ⟨ad, cp, hvf⟩ := hform
  go_enter Tryz.func87, Tryz.ntmps87
  go_wp2
  obtain ⟨k1, k2, hsz, hbl0⟩ := alloc2 w (.cells #[.slice none 0 0, .slice none 0 0] 29) (.cells #[.slice none 0 0, .slice none 0 0] 29)
  generalize ((w.alloc (.cells #[.slice none 0 0, .slice none 0 0] 29)).alloc (.cells #[.slice none 0 0, .slice none 0 0] 29)) = W0 at *
  subst hvf
  have HM := Lib.hid hm
  clear hm
  go_loopw [4] (fun i wr => ∃ (k q : Nat) (vb : Value), i = .int .i64 q ∧ Hid (q = 64 * k) ∧ k ≤ m ∧ wr.heap[w.heap.size]? = some (.cells #[.slice none 0 0, .slice none 0 0] 29 (0, 0)) ∧ wr.heap[w.heap.size + 1]? = some (.cells #[vb, .slice none 0 0] 29 (0, 0)) ∧ Txt wr (w.heap.size + 2) vb ((chunk l).take k) ∧ Below w.heap.size w wr ∧ w.heap.size + 2 ≤ wr.heap.size) (fun i _ => l.length - (intOf i).toNat)
  case atStart => exact ⟨0, 0, _, rfl, Lib.hid rfl, Nat.zero_le _, k1, k2, by rw [List.take_zero]; exact Txt.nil _ _, hbl0, by omega⟩
  case round =>
    obtain ⟨k, q, vb, rfl, hq, hk, j1, j2, htx, hbl, hs2⟩ := hrel
    obtain ⟨adb, cpb, rfl⟩ := htx.slice
    have c0 := cell2_0 j2
    have c1 := cell2_1 j2
    have f0 := frozen2 j2 0
    have g0 := cell2_0 j1
    have g1 := cell2_1 j1
    have h0 := frozen2 j1 0
    have h1 := frozen2 j1 1
    have hlen : ((chunk l).take k).length = k := by rw [List.length_take, chunk_length, HM.out]; omega
    rw [hlen] at c0 j2 htx
    by_cases hlt : k < m
    · have hqe := hq.out
      have hle := HM.out
      have hlt' : decide ((q : Int) < l.length) = true := by simp; omega
      have hbv : Buf wr base (.slice ad l.length cp) l := hv.below hbl
      obtain ⟨v3, hs3, hcv⟩ := slice_buf (Buf.drew hbv) q 64 (by omega)
      have hs3' : ∀ W, (Instr.slice 52 (.slice ad l.length cp) (some (.int .i64 (q : Int))) (some (.int .i64 ((q : Int) + 64))) none).run Tryz.prog W = .ok v3 W := hs3
      have hct := chunk_take l k (by omega)
      rw [← hqe] at hct
      obtain ⟨B, hB⟩ : ∃ B, B = (l.drop q).take 64 := ⟨_, rfl⟩
      rw [← hB] at hct hcv
      have hcv' : (convert 52 9 v3).run Tryz.prog { heap := wr.heap, tape := wr.tape, drawn := wr.drawn + 1, os := wr.os, output := wr.output } = .ok (.string ⟨B.toArray⟩) { heap := wr.heap, tape := wr.tape, drawn := wr.drawn + 1, os := wr.os, output := wr.output } := hcv
      have hwr : IntKind.i64.wrap ((q : Int) + 64) = (q : Int) + 64 := by rw [show (q : Int) + 64 = ((q + 64 : Nat) : Int) by omega]; exact Lib.wrap_i64_small _ (by omega)
      have hlt2 : decide (q < l.length) = true := by simp; omega
      have hHc := Lib.hid hct
      have hq60 : q + 64 ≤ 262144 := by omega
      clear hct hB hqe hle hs3 hcv
      go_wp2
      have hcv0 : (convert 52 9 v3).run Tryz.prog wr.drew = .ok (.string ⟨B.toArray⟩) wr.drew := hcv'
      have ha := Go.Joins.below_alloc1 wr (.cells #[.string ⟨B.toArray⟩] 9)
      have c0' := cell2_0 (heap_below j2 ha)
      have c1' := cell2_1 (heap_below j2 ha)
      have hta := (htx.alloc (.cells #[.string ⟨B.toArray⟩] 9)).drew
      have hnew : (wr.alloc (.cells #[.string ⟨B.toArray⟩] 9)).drew.cell? ⟨wr.heap.size, 0, none⟩ = some (.string ⟨B.toArray⟩) := cell1 (World.alloc_heap_new wr _)
      go_region_law (refine step_app_str (n := B) rfl rfl (w.heap.size + 2) rfl hta (by simp [go_sem]) hnew (by omega) (by simp; omega) ?_; intro g cap w1 t1 b1 hgb; have j2'' := (b1.block (w.heap.size + 1) (by omega)).trans (heap_below j2 ha.drew); have d0 := cell2_0 j2''; have d1 := frozen2 j2'' 0)
      all_goals go_wp2
      all_goals
        have m1 := one_other (b := w.heap.size + 1) (j := 0) (u := .slice (some ⟨g, 0, none⟩) (k + 1) cap) (by omega) ((b1.block (w.heap.size) (by omega)).trans (heap_below j1 ha.drew))
        have m2 := Lib.heap_setCell_same (i := 0) j2'' (.slice (some ⟨g, 0, none⟩) (k + 1) cap)
        rw [← hHc.out, hlen] at t1
        have hbz : Below w.heap.size w w1 := hbl.trans ((ha.drew.mono hbl.size).trans (b1.mono (by omega)))
        refine ⟨⟨k + 1, q + 64, _, rfl, Lib.hid (by rw [hq.out]; omega), hlt, m1, m2, own_set t1 (by omega), below_set hbz (by omega), ?_⟩, by have := of_decide_eq_true hlt2; simp [intOf]; omega⟩
        exact Nat.le_trans (Nat.le_trans hs2 (Nat.le_trans ha.drew.size b1.size)) (grown_cell w1 _ _ _).size
    · obtain rfl : k = m := by omega
      have hqe := hq.out
      have hle := HM.out
      have hlt' : decide ((q : Int) < l.length) = false := by simp; omega
      have hlt2 : decide (q < l.length) = false := by simp; omega
      have hfull : (chunk l).take k = chunk l := List.take_of_length_le (by rw [chunk_length]; omega)
      rw [hfull] at htx
      clear hqe hle
      go_wp2
      refine bodyPost_ret (results_cell1 rfl _ _ w.heap.size _ _ _ _ rfl (set_two j1) Tryz.underlying29 rfl (by kernel_rfl)) rfl ⟨_, rfl, ?_, below_set (below_set hbl (Nat.le_refl _)) (Nat.le_refl _)⟩
      have hcl : (chunk l).length = k := by rw [chunk_length, HM.out]; omega
      unfold Txt at htx
      rw [hcl] at htx
      exact own_lower (own_set (own_set htx (by omega)) (by omega)) (by omega)
end Go.Proofs.YtmfbkelhegdmpaaGreatDoor
/- The walks of the reference's Sync, Crashes, chapter 11 (disk). -/
namespace Go.Proofs.YtmfbkelhegdmpaaGreatDoor
open Go.RowKit Disk11

set_option maxHeartbeats 4000000 in
set_option maxRecDepth 100000 in
theorem RSync_any (d : Dev) (v : Value) (w : World) (h : DiskIs w d v) :
    Calls Tryz.prog 45 #[v] w fun e w' => ∃ v', e = .returned (.tuple #[v', .int .i64 (syncD d).2]) ∧ DiskIs w' (syncD d).1 v' ∧ Below w.heap.size w w' := by
  have HC := Lib.hid (fun W h => RCheck_any d v W h)
  have HL := Lib.hid (fun W h hg => readR_any d v W h hg)
  have hD := Lib.hid h
  have hgd : (chk d).1 = 0 → Disk11.Good d := fun h => (chk_good d).1 (chk_ok h)
  obtain ⟨r, hr⟩ : ∃ r, r = syncD d := ⟨_, rfl⟩
  rw [← hr]
  unfold syncD at hr
  obtain ⟨c, hc⟩ : ∃ c, c = chk d := ⟨_, rfl⟩
  rw [← hc] at hr hgd HC
  clear hc
  obtain ⟨c1, c2⟩ := c
  dsimp only at hr hgd HC
  obtain ⟨ab, cb, ac, cc, rfl, _, _, _, _⟩ := h.form
  clear h
  by_cases h0 : c1 = 0
  · subst h0
    have hg := hgd rfl
    clear hgd
    rw [if_neg (by simp)] at hr
    have hl2 := hg.2.2.2.1
    go_enter Tryz.func45, Tryz.ntmps45
    go_wp2_with fail
    obtain ⟨k1, k2, hsz, hbl⟩ := alloc2 w (.cells #[.slice ab d.1.length cb, .slice ac d.2.length cc] 29) (.cells #[.slice none 0 0, .slice none 0 0] 29)
    refine (HC.out _ (hD.out.below hbl)).mono ?_
    rintro e w1 ⟨rfl, b1⟩
    have k1' := heap_below k1 b1
    have hb1 := hbl.trans (b1.mono hbl.size)
    have c0 := cell2_0 k1'
    have c1 := cell2_1 k1'
    go_wp2_with fail
    refine (HL.out w1 (hD.out.below hb1) hg).mono ?_
    rintro e w2 ⟨v2, rfl, o2, b2⟩
    have hb2 := hb1.trans (b2.mono hb1.size)
    have hra := readAll_length hg
    have HV := Lib.hid (deviceR_any (readAll d) d.1.length hra hg.2.1 v2 _ w2 o2)
    clear c0 c1
    go_wp2_with fail
    refine HV.out.mono ?_
    rintro e w3 ⟨v3, rfl, o3, b3⟩
    have hb3 := hb2.trans (b3.mono hb2.size)
    obtain ⟨ad, cp, rfl⟩ := own_slice o3
    have k2' := heap_below (heap_below (heap_below k2 b1) b2) b3
    have r0 := cell2_0 k2'
    have r1 := cell2_1 k2'
    have f0 := frozen2 k2' 0
    have f1 := frozen2 k2' 1
    go_wp2
    have hw1 : w.heap.size + 2 ≤ w2.heap.size := by have := b1.size; have := b2.size; omega
    have o4 := own_set (b := w.heap.size + 1) (j := 1) (u := .slice none 0 0) (own_set (b := w.heap.size + 1) (j := 0) (u := .slice ad d.1.length cp) o3 (by omega)) (by omega)
    have hlen : (chunk (readAll d)).length = d.1.length := by rw [← readK_all]; exact (chunk_readK hg _).1
    subst hr
    refine bodyPost_ret (results_cell_tmp rfl _ _ (w.heap.size + 1) _ _ _ _ rfl (set_two k2') Tryz.underlying29 rfl (by kernel_rfl)) rfl ⟨_, rfl, ⟨_, _, rfl, ?_, Row.nil _ _⟩, below_set (below_set hb3 (by omega)) (by omega)⟩
    show Row _ 1 _ (chunk (readAll d)).length _
    rw [hlen]
    exact Row.of_own o4
  · clear HL
    have h0' : ((c1 : Int) == 0) = false := by simp; omega
    rw [if_pos h0] at hr
    subst hr
    clear h0 hgd
    go_enter Tryz.func45, Tryz.ntmps45
    go_wp2_with fail
    obtain ⟨k1, k2, hsz, hbl⟩ := alloc2 w (.cells #[.slice ab d.1.length cb, .slice ac d.2.length cc] 29) (.cells #[.slice none 0 0, .slice none 0 0] 29)
    refine (HC.out _ (hD.out.below hbl)).mono ?_
    rintro e w1 ⟨rfl, b1⟩
    have k2' := heap_below k2 b1
    have r0 := cell2_0 k2'
    have r1 := cell2_1 k2'
    have f0 := frozen2 k2' 0
    have f1 := frozen2 k2' 1
    go_wp2
    refine bodyPost_ret (results_cell_tmp rfl _ _ (w.heap.size + 1) _ _ _ _ rfl (set_two k2') Tryz.underlying29 rfl (by kernel_rfl)) rfl ?_
    exact ⟨_, rfl, DiskIs.none _, below_set (below_set (hbl.trans (b1.mono hbl.size)) (by omega)) (by omega)⟩

end Go.Proofs.YtmfbkelhegdmpaaGreatDoor
/- A slice of zeros, made and turned into a text. -/
namespace Go.Proofs.YtmfbkelhegdmpaaGreatDoor
open Go.RowKit Disk11

theorem tab_zero (n : Nat) : tab n (fun _ => Value.int .u8 0) = (byteVals (List.replicate n 0)).toArray := by
  have := tab_bytes n (fun _ => 0)
  rw [List.map_const', List.length_range] at this
  exact this
theorem zero_string (n : Nat) (W : World) : (convert 52 9 (.slice (some ⟨W.heap.size, 0, none⟩) n n)).run Tryz.prog (W.alloc (.cells (tab n fun _ => .int .u8 0) 5)) = .ok (.string ⟨(List.replicate n (0 : UInt8)).toArray⟩) (W.alloc (.cells (tab n fun _ => .int .u8 0) 5)) := by
  have h := arr_string (T := 5) (l := List.replicate n 0) (b := W.heap.size) (W.alloc (.cells (tab n fun _ => .int .u8 0) 5)) n (by
    have := World.alloc_heap_new W (.cells (tab n fun _ => .int .u8 0) 5)
    unfold ArrIs; rw [this, tab_zero])
  rw [List.length_replicate] at h
  exact h
end Go.Proofs.YtmfbkelhegdmpaaGreatDoor
