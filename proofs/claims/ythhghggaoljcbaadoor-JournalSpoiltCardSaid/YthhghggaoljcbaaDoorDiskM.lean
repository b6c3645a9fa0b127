/- The walks of laid, Sync, chapter 11 (disk). -/
import Derived.Test.YthhghggaoljcbaaDoorDiskL
import Derived.Test.YthhghggaoljcbaaDoorDiskW
namespace Go.Proofs.YthhghggaoljcbaaDoor
open Go.RowKit Disk11

theorem slice_wr (ac : Option Addr) (m cc n : Nat) (hn : n ≤ cc) (W : World) : (Instr.slice 23 (.slice ac m cc) none (some (.int .i64 (n : Int))) none).run Tryd.prog W = .ok (.slice ac n cc) W := by
  have hu : Tryd.prog.underlying 23 = some (.slice (Tryd.prog.elem 23)) := by kernel_rfl
  have hz : (Go.sizeOf (Tryd.prog.elem 23)).run Tryd.prog W = .ok 2 W := by
    rw [show Tryd.prog.elem 23 = 73 by kernel_rfl]
    exact Tryd.sizeOf73 W
  rw [run_slice_h (P := Tryd.prog) W 23 ac m cc hu .i64 (n : Int) (by omega) (by omega), hz]
  simp only [Result.andThen, sliced, Int.toNat_natCast, Nat.sub_zero, Nat.zero_mul]
  split
  · rfl
  · cases ac <;> simp [Addr.add]
theorem good_at {d : Dev} (h : Disk11.Good d) {k : Nat} (hk : k < d.2.length) : 0 ≤ d.2[k].1 ∧ d.2[k].1.toNat + d.2[k].2.length ≤ 64 * d.1.length := by
  obtain ⟨_, _, _, _, hc⟩ := h
  obtain ⟨_, h1, h2⟩ := hc _ (List.getElem_mem hk)
  unfold Disk11.size at h2
  exact ⟨h1, by omega⟩
theorem chunk_readK {d : Dev} (h : Disk11.Good d) (k : Nat) : (chunk (readK d k)).length = d.1.length ∧ (chunk (readK d k)).flatten = readK d k := by
  have hl := readK_length h k
  exact ⟨by rw [chunk_length, hl]; omega, flatten_chunk hl⟩

/-- The bytes of the first k writes, counted. -/
def sumTo (d : Dev) (k : Nat) : Nat := ((d.2.take k).map fun w => w.2.length).sum
theorem sumTo_succ {d : Dev} {k : Nat} (h : k < d.2.length) : sumTo d (k + 1) = sumTo d k + d.2[k].2.length := by
  unfold sumTo
  rw [List.take_succ_eq_append_getElem h, List.map_append, List.sum_append]
  simp
theorem sums_small {d : Dev} (h : Disk11.Good d) : ∀ k, k ≤ d.2.length → sumTo d k ≤ 262144 * k
  | 0, _ => by simp [sumTo]
  | k + 1, hk => by
    have ih := sums_small h k (by omega)
    have hga := good_at h (k := k) (by omega)
    have := h.2.1
    rw [sumTo_succ (by omega)]; omega
set_option maxHeartbeats 4000000 in
set_option maxRecDepth 100000 in
theorem laid_any (d : Dev) (v : Value) (n : Nat) (w : World) (h : DiskIs w d v) (hg : Disk11.Good d) (hn : n ≤ d.2.length) :
    Calls Tryd.prog 66 #[v, .int .i64 n] w fun e w' => ∃ v', e = .returned v' ∧ w'.ownsRow w.heap.size 9 1 v' d.1.length (strVals (chunk (readK d n))) ∧ Below w.heap.size w w' := by
  obtain ⟨vb, vc, rfl, hb, hc⟩ := h
  obtain ⟨ab, cb, rfl, _⟩ := hb.slice
  obtain ⟨ac, cc, rfl, hcc⟩ := hc.slice
  have hl := hg.2.1
  have hl2 := hg.2.2.2.1
  have HS := Lib.hid (fun W h => cloneS_any d.1 (.slice ab d.1.length cb) W h hl)
  have hsl := slice_wr ac d.2.length cc n (Nat.le_trans hn hcc)
  have hal := Go.Joins.below_alloc1 w (.cells #[.slice ab d.1.length cb, .slice ac d.2.length cc] 25)
  have hk1 := World.alloc_heap_new w (.cells #[.slice ab d.1.length cb, .slice ac d.2.length cc] 25)
  go_enter Tryd.func66, Tryd.ntmps66
  go_wp2_with fail
  refine (HS.out _ (hb.below hal)).mono ?_
  rintro e w1 ⟨v1, rfl, o1, b1⟩
  have hb1 := hal.trans (b1.mono hal.size)
  have k1 := heap_below hk1 b1
  have c0 := cell2_0 k1
  have c1 := cell2_1 k1
  go_wp2
  have hbase : w.heap.size ≤ w1.heap.size := hb1.size
  have o1' := own_lower o1 (B' := w.heap.size) hal.size
  have hfl : (chunk (readK d 0)) = d.1 := by
    unfold readK; rw [List.take_zero]; exact chunk_flatten hg.2.2.1
  have o1' : w1.ownsRow w.heap.size 9 1 v1 d.1.length (strVals (chunk (readK d 0))) := by rw [hfl]; exact o1'
  clear hfl
  go_loopw [16] (fun i wr => ∃ k : Nat, i = .int .i64 k ∧ k ≤ n ∧ wr.ownsRow w.heap.size 9 1 v1 d.1.length (strVals (chunk (readK d k))) ∧ Below w.heap.size w wr) (fun i _ => n - (intOf i).toNat)
  case atStart => exact ⟨0, rfl, Nat.zero_le _, o1', hb1⟩
  case round =>
    obtain ⟨k, rfl, hk, hown, hbl⟩ := hrel
    by_cases hlt : k < n
    · have hlt' : decide ((k : Int) < n) = true := by simp; omega
      have hkd : k < d.2.length := by omega
      obtain ⟨a, rfl, q0⟩ := hc.cell (wrVals_at d.2 k hkd).1
      obtain ⟨a', ha', q1⟩ := hc.cell (wrVals_at d.2 k hkd).2
      cases ha'
      have hga := good_at hg hkd
      have hrs := readK_succ hkd
      have hcr := chunk_readK hg k
      obtain ⟨x, hx⟩ : ∃ x, x = d.2[k] := ⟨_, rfl⟩
      rw [← hx] at q0 q1 hga hrs
      obtain ⟨p, y⟩ := x
      dsimp only at q0 q1 hga hrs
      obtain ⟨hp0, hpf⟩ := hga
      obtain ⟨pn, rfl⟩ : ∃ pn : Nat, p = (pn : Int) := ⟨p.toNat, by omega⟩
      rw [Int.toNat_natCast] at hpf hrs
      have q0' := cell_below hbl q0
      have q1' := cell_next (cell_below hbl q1)
      have ha := Go.Joins.below_alloc1 wr (.cells #[.int .i64 pn, .string ⟨y.toArray⟩] 73)
      have hf := World.alloc_heap_new wr (.cells #[.int .i64 pn, .string ⟨y.toArray⟩] 73)
      have n0 := cell2_0 hf
      have n1 := cell2_1 hf
      have hbl2 := hbl.trans (ha.mono hbl.size)
      have HL := Lib.hid (lay_any (chunk (readK d k)) pn y v1 w.heap.size (wr.alloc (.cells #[.int .i64 pn, .string ⟨y.toArray⟩] 73)) (by rw [hcr.1]; exact World.ownsRow.alloc hown _) (chunk_whole _) (by rw [hcr.1]; exact hpf) (by rw [hcr.1]; exact hl) hbl2.size)
      rw [hcr.1, hcr.2, ← hrs] at HL
      clear hx hrs hcr q0 q1
      go_wp2_with fail
      refine HL.out.mono ?_
      rintro e w2 ⟨rfl, o2, b2, _⟩
      go_wp2
      exact ⟨⟨k + 1, rfl, hlt, o2, hbl2.trans b2⟩, by simp [intOf]; omega⟩
    · obtain rfl : k = n := by omega
      have hlt' : decide ((k : Int) < k) = false := by simp
      go_wp2
      go_ret
      exact ⟨_, rfl, hown, hbl⟩

set_option maxHeartbeats 4000000 in
set_option maxRecDepth 100000 in
theorem Sync_any (d : Dev) (v : Value) (w : World) (h : DiskIs w d v) :
    Calls Tryd.prog 43 #[v] w fun e w' => ∃ v', e = .returned (.tuple #[v', .int .i64 (syncD d).2]) ∧ DiskIs w' (syncD d).1 v' ∧ Below w.heap.size w w' := by
  have HC := Lib.hid (fun W h => Check_any d v W h)
  have HL := Lib.hid (fun n W h hg hn => laid_any d v n W h hg hn)
  have hD := Lib.hid h
  have hgd : (chk d).1 = 0 → Disk11.Good d := fun h => (chk_good d).1 (chk_ok h)
  obtain ⟨r, hr⟩ : ∃ r, r = syncD d := ⟨_, rfl⟩
  rw [← hr]
  unfold syncD at hr
  obtain ⟨c, hc⟩ : ∃ c, c = chk d := ⟨_, rfl⟩
  rw [← hc] at hr hgd HC
  clear hc
  obtain ⟨c1, c2⟩ := c
  dsimp only at hr hgd HC
  obtain ⟨ab, cb, ac, cc, rfl, _, _, _, _⟩ := h.form
  clear h
  by_cases h0 : c1 = 0
  · subst h0
    have hg := hgd rfl
    clear hgd
    rw [if_neg (by simp)] at hr
    have hl2 := hg.2.2.2.1
    go_enter Tryd.func43, Tryd.ntmps43
    go_wp2_with fail
    obtain ⟨k1, k2, hsz, hbl⟩ := alloc2 w (.cells #[.slice ab d.1.length cb, .slice ac d.2.length cc] 25) (.cells #[.slice none 0 0, .slice none 0 0] 25)
    refine (HC.out _ (hD.out.below hbl)).mono ?_
    rintro e w1 ⟨rfl, b1⟩
    have k1' := heap_below k1 b1
    have hb1 := hbl.trans (b1.mono hbl.size)
    have c0 := cell2_0 k1'
    have c1 := cell2_1 k1'
    go_wp2_with fail
    refine (HL.out d.2.length w1 (hD.out.below hb1) hg (Nat.le_refl _)).mono ?_
    rintro e w2 ⟨v2, rfl, o2, b2⟩
    have hb2 := hb1.trans (b2.mono hb1.size)
    obtain ⟨ad, cp, rfl⟩ := own_slice o2
    have k2' := heap_below (heap_below k2 b1) b2
    have r0 := cell2_0 k2'
    have r1 := cell2_1 k2'
    have f0 := frozen2 k2' 0
    have f1 := frozen2 k2' 1
    clear c0 c1
    go_wp2
    have hw1 := b1.size
    have o3 := own_set (b := w.heap.size + 1) (j := 1) (u := .slice none 0 0) (own_set (b := w.heap.size + 1) (j := 0) (u := .slice ad d.1.length cp) o2 (by omega)) (by omega)
    rw [readK_all] at o3
    have hlen : (chunk (readAll d)).length = d.1.length := by rw [← readK_all]; exact (chunk_readK hg _).1
    subst hr
    refine bodyPost_ret (results_cell_tmp rfl _ _ (w.heap.size + 1) _ _ _ _ rfl (set_two k2') Tryd.underlying25 rfl (by kernel_rfl)) rfl ⟨_, rfl, ⟨_, _, rfl, ?_, Row.nil _ _⟩, below_set (below_set hb2 (by omega)) (by omega)⟩
    show Row _ 1 _ (chunk (readAll d)).length _
    rw [hlen]
    exact Row.of_own o3
  · clear HL
    have h0' : ((c1 : Int) == 0) = false := by simp; omega
    rw [if_pos h0] at hr
    subst hr
    clear h0 hgd
    go_enter Tryd.func43, Tryd.ntmps43
    go_wp2_with fail
    obtain ⟨k1, k2, hsz, hbl⟩ := alloc2 w (.cells #[.slice ab d.1.length cb, .slice ac d.2.length cc] 25) (.cells #[.slice none 0 0, .slice none 0 0] 25)
    refine (HC.out _ (hD.out.below hbl)).mono ?_
    rintro e w1 ⟨rfl, b1⟩
    have k2' := heap_below k2 b1
    have r0 := cell2_0 k2'
    have r1 := cell2_1 k2'
    have f0 := frozen2 k2' 0
    have f1 := frozen2 k2' 1
    go_wp2
    refine bodyPost_ret (results_cell_tmp rfl _ _ (w.heap.size + 1) _ _ _ _ rfl (set_two k2') Tryd.underlying25 rfl (by kernel_rfl)) rfl ?_
    exact ⟨_, rfl, DiskIs.none _, below_set (below_set (hbl.trans (b1.mono hbl.size)) (by omega)) (by omega)⟩
end Go.Proofs.YthhghggaoljcbaaDoor
