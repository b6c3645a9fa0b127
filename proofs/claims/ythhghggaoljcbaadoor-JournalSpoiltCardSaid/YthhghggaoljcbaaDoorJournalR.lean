/- The walks of the statements' own small functions, and of the chapter's device, chapter 12 (journal). -/
import Derived.Test.YthhghggaoljcbaaDoorJournalM
import Derived.Test.YthhghggaoljcbaaDoorJPlain
import Derived.Test.YthhghggaoljcbaaDoorDiskQr
import Derived.Test.YthhghggaoljcbaaDoorZeroStr
namespace Go.Proofs.YthhghggaoljcbaaDoor
open Go.RowKit Disk11 Journal12 Sum2

theorem as_app {w w' : World} {e : Ending} {r : Dev × Int × Nat} {d : Dev} {z : Int} {k nb nc : Nat} (n : Int) (hr : r = (d, z, k)) (hk : (k : Int) = n) (hb : d.1.length = nb) (hc : d.2.length = nc) (h : AppPost w r e w') :
    ∃ ab cb ac cc, e = .returned (.tuple #[.agg #[.slice ab nb cb, .slice ac nc cc], .int .i64 z, .int .i64 n]) ∧ DiskIs w' d (.agg #[.slice ab nb cb, .slice ac nc cc]) ∧ Below w.heap.size w w' := by
  subst hr hb hc hk
  obtain ⟨v', rfl, hd, hb⟩ := h
  obtain ⟨ab, cb, ac, cc, rfl, _⟩ := hd.form
  exact ⟨ab, cb, ac, cc, rfl, hd, hb⟩
theorem results_cellR {fn : Func} {P : Program} {p : Tmp} {ty : TypeId} (h : fn.results = #[.cell p ty]) (tmps : Array Value) (w : World) (g : Nat) (t : TypeId) (cs : Array Value) (fr : Nat × Nat) (d : TypeDesc)
    (hp : tmps.getD p undef = .pointer (some ⟨g, 0, none⟩)) (hg : w.heap[g]? = some (.cells cs t fr))
    (hu : P.underlying ty = some d) (hd : (match d with | .struct _ | .array _ _ => true | _ => false) = true) (hi : (P.info? ty).map (·.size) = some cs.size) :
    (results fn tmps).run P w = .ok (.agg cs) w := by
  have hp' : tmps[p]?.getD undef = .pointer (some ⟨g, 0, none⟩) := by simpa using hp
  simp [results, h, hp', asAddr, run_loadVar_row w g t ty cs fr d hg hu hd hi]

set_option maxHeartbeats 1000000 in
set_option maxRecDepth 100000 in
theorem lregion_any (w : World) : Calls Tryd.prog 33 #[] w fun e w' => e = .returned (.agg #[.int .i64 1, .int .i64 2]) ∧ Below w.heap.size w w' := by
  have k1 := World.alloc_heap_new w (.cells #[.int .i64 1, .int .i64 2] 27)
  have hb := Go.Joins.below_alloc1 w (.cells #[.int .i64 1, .int .i64 2] 27)
  go_enter Tryd.func33, Tryd.ntmps33
  go_wp2
  exact bodyPost_ret (results_cellR rfl _ _ w.heap.size _ _ _ _ rfl k1 Tryd.underlying27 rfl (by kernel_rfl)) rfl ⟨rfl, hb⟩
set_option maxHeartbeats 1000000 in
set_option maxRecDepth 100000 in
theorem lfield_any (w : World) : Calls Tryd.prog 39 #[] w fun e w' => e = .returned (.agg #[.int .i64 2, .int .i64 8]) ∧ Below w.heap.size w w' := by
  have k1 := World.alloc_heap_new w (.cells #[.int .i64 2, .int .i64 8] 27)
  have hb := Go.Joins.below_alloc1 w (.cells #[.int .i64 2, .int .i64 8] 27)
  go_enter Tryd.func39, Tryd.ntmps39
  go_wp2
  exact bodyPost_ret (results_cellR rfl _ _ w.heap.size _ _ _ _ rfl k1 Tryd.underlying27 rfl (by kernel_rfl)) rfl ⟨rfl, hb⟩

set_option maxHeartbeats 4000000 in
set_option maxRecDepth 100000 in
theorem shown_any (w : World) (ht : Tab w) :
    Calls Tryd.prog 32 #[] w fun e w' => ∃ ab cb ac cc, e = .returned (.tuple #[.agg #[.slice ab 3 cb, .slice ac 2 cc], .bool true]) ∧ DiskIs w' shownD (.agg #[.slice ab 3 cb, .slice ac 2 cc]) ∧ Below w.heap.size w w' := by
  have HN := Lib.hid (fun W => (RNew_any 3 W).mono (fun _ _ => as_disk (nb := 3) (nc := 0) 0 (zeroD_new 3 (by decide) (by decide)) rfl rfl rfl))
  have HR := Lib.hid (fun W => lregion_any W)
  have HA := Lib.hid (fun v W h t => (JAppend_any (zeroD 3) v 1 2 0 helloB W h t (by decide)).mono (fun _ _ => as_app (nb := 3) (nc := 1) 0 step1.1 rfl rfl rfl))
  have HA2 := Lib.hid (fun v W h t => (JAppend_any oneD v 1 2 15 xB W h t (by decide)).mono (fun _ _ => as_app (nb := 3) (nc := 2) 0 step2.1 rfl rfl rfl))
  have k0 := World.alloc_heap_new w (.cells #[.slice none 0 0, .slice none 0 0] 25)
  have b0 := Go.Joins.below_alloc1 w (.cells #[.slice none 0 0, .slice none 0 0] 25)
  have hT := Lib.hid ht
  go_enter Tryd.func32, Tryd.ntmps32
  go_wp2_with fail
  refine (HN.out _).mono ?_
  rintro e w1 ⟨ab, cb, ac, cc, rfl, d1, b1⟩
  have k1 := heap_below k0 b1
  have t1 := b0.trans (b1.mono b0.size)
  have a1 := Go.Joins.below_alloc1 w1 (.cells #[.slice ab 3 cb, .slice ac 0 cc] 25)
  have n1 := World.alloc_heap_new w1 (.cells #[.slice ab 3 cb, .slice ac 0 cc] 25)
  have k1' := Lib.hid (heap_below k1 a1)
  have t1' := t1.trans (a1.mono t1.size)
  have c0 := cell2_0 n1
  have c1 := cell2_1 n1
  have D1 := Lib.hid (d1.below a1)
  have B1 := Lib.hid t1'.drew
  have N1 := Lib.hid n1
  have hlt : w.heap.size < w1.heap.size := (Array.getElem?_eq_some_iff.1 k1).1
  clear k0 b0 b1 k1 t1 a1 n1 d1 t1' ht
  go_upto_region 2 with (fail)
  generalize hW1 : (w1.alloc (.cells #[.slice ab 3 cb, .slice ac 0 cc] 25)) = W1 at *
  generalize w1.heap.size = g at *
  go_cut [4, 5] from 10 to 16 (fun u v W => ∃ (cb3 cc3 : Nat) (ab3 ac3 : Option Addr), u = .int .i64 15 ∧ v = .int .i64 0 ∧ W.heap[g]? = some (.cells #[.slice ab3 3 cb3, .slice ac3 1 cc3] 25 (0, 0)) ∧ DiskIs W oneD (.agg #[.slice ab3 3 cb3, .slice ac3 1 cc3]) ∧ W.heap[w.heap.size]? = some (.cells #[.slice none 0 0, .slice none 0 0] 25 (0, 0)) ∧ Below w.heap.size w W)
  case first =>
    go_region_with (first
      | (go_at_call 33; refine (HR.out _).mono ?_; rintro e w6 ⟨rfl, b6⟩
         have o0 := cell_below b6 (show W1.drew.cell? _ = _ from c0); have o1 := cell_below b6 (show W1.drew.cell? _ = _ from c1)
         have B6 := Lib.hid (B1.out.trans (b6.mono B1.out.size))
         have D6 := Lib.hid (D1.out.drew.below b6)
         have N6 := Lib.hid (heap_below (show W1.drew.heap[g]? = _ from N1.out) b6); have K6 := Lib.hid (heap_below (show W1.drew.heap[w.heap.size]? = _ from k1'.out) b6))
      | (go_at_call 13; refine (HA.out _ _ D6.out (hT.out.below B6.out)).mono ?_; rintro e w7 ⟨ab3, cb3, ac3, cc3, rfl, xd3, b7⟩
         have B7 := Lib.hid (B6.out.trans (b7.mono B6.out.size))
         have k17 := heap_below N6.out b7; have k37 := heap_below K6.out b7
         have p0 := cell2_0 k17; have p1 := cell2_1 k17; have p2 := frozen2 k17 0; have p3 := frozen2 k17 1))
    all_goals
      go_wp2_with fail
      go_meet
      exact ⟨_, _, _, _, rfl, rfl, set_two k17, disk_apart (disk_apart xd3 k17) (Lib.heap_setCell_same (i := 0) k17 _), two_other (by omega) k37, below_set (below_set B7.out (by omega)) (by omega)⟩
  case rest =>
    obtain ⟨cb2, cc2, ab2, ac2, rfl, rfl, g2, xd2, k2, hb2⟩ := hcut
    have c0 := cell2_0 g2
    have c1 := cell2_1 g2
    have D1 := Lib.hid xd2
    have B1 := Lib.hid hb2.drew
    have N1 := Lib.hid g2
    have k1' := Lib.hid k2
    clear xd2 hb2 g2 k2
    go_upto_region 5 with (fail)
    go_cut [4, 5] from 24 to 30 (fun u v W => ∃ (cb3 cc3 : Nat) (ab3 ac3 : Option Addr), u = .int .i64 26 ∧ v = .int .i64 0 ∧ W.heap[g]? = some (.cells #[.slice ab3 3 cb3, .slice ac3 2 cc3] 25 (0, 0)) ∧ DiskIs W shownD (.agg #[.slice ab3 3 cb3, .slice ac3 2 cc3]) ∧ W.heap[w.heap.size]? = some (.cells #[.slice none 0 0, .slice none 0 0] 25 (0, 0)) ∧ Below w.heap.size w W)
    case first =>
      go_region_with (first
        | (go_at_call 33; refine (HR.out _).mono ?_; rintro e w6 ⟨rfl, b6⟩
           have o0 := cell_below b6 (show wc.drew.cell? _ = _ from c0); have o1 := cell_below b6 (show wc.drew.cell? _ = _ from c1)
           have B6 := Lib.hid (B1.out.trans (b6.mono B1.out.size))
           have D6 := Lib.hid (D1.out.drew.below b6)
           have N6 := Lib.hid (heap_below (show wc.drew.heap[g]? = _ from N1.out) b6); have K6 := Lib.hid (heap_below (show wc.drew.heap[w.heap.size]? = _ from k1'.out) b6))
        | (go_at_call 13; refine (HA2.out _ _ D6.out (hT.out.below B6.out)).mono ?_; rintro e w7 ⟨ab3, cb3, ac3, cc3, rfl, xd3, b7⟩
           have B7 := Lib.hid (B6.out.trans (b7.mono B6.out.size))
           have k17 := heap_below N6.out b7; have k37 := heap_below K6.out b7
           have p0 := cell2_0 k17; have p1 := cell2_1 k17; have p2 := frozen2 k17 0; have p3 := frozen2 k17 1))
      all_goals
        go_wp2_with fail
        go_meet
        exact ⟨_, _, _, _, rfl, rfl, set_two k17, disk_apart (disk_apart xd3 k17) (Lib.heap_setCell_same (i := 0) k17 _), two_other (by omega) k37, below_set (below_set B7.out (by omega)) (by omega)⟩
    case rest =>
      obtain ⟨cb2, cc2, ab2, ac2, rfl, rfl, g2, xd2, k2, hb2⟩ := hcut
      have c0 := cell2_0 g2
      have c1 := cell2_1 g2
      have r0 := cell2_0 k2
      have r1 := cell2_1 k2
      have r2 := frozen2 k2 0
      have r3 := frozen2 k2 1
      have hP := Lib.hid (show DiskIs ((wc.setCell ⟨w.heap.size, 0, none⟩ (.slice ab2 3 cb2)).setCell ⟨w.heap.size, 1, none⟩ (.slice ac2 2 cc2)) shownD _ from disk_apart (disk_apart xd2 k2) (Lib.heap_setCell_same (i := 0) k2 (.slice ab2 3 cb2)))
      clear xd2
      go_wp2
      refine bodyPost_ret (results_cell_tmp rfl _ _ w.heap.size _ _ _ _ rfl (set_two k2) Tryd.underlying25 rfl (by kernel_rfl)) rfl ?_
      exact ⟨_, _, _, _, rfl, hP.out, below_set (below_set hb2 (Nat.le_refl _)) (Nat.le_refl _)⟩

set_option maxHeartbeats 1000000 in
set_option maxRecDepth 100000 in
theorem long_any (n : Nat) (hn : n ≤ 262144) (w : World) : Calls Tryd.prog 34 #[.int .i64 (n : Int)] w fun e w' => e = .returned (.string ⟨(List.replicate n (0 : UInt8)).toArray⟩) ∧ Below w.heap.size w w' := by
  have hmk := makeU8 n hn w
  have hcv := zero_string n w
  have a5 := Go.Joins.below_alloc1 w (.cells (tab n fun _ => .int .u8 0) 5)
  go_enter Tryd.func34, Tryd.ntmps34
  go_wp2
  go_ret
  exact ⟨rfl, a5⟩

set_option maxHeartbeats 4000000 in
set_option maxRecDepth 100000 in
theorem lblank_any (w : World) :
    Calls Tryd.prog 37 #[] w fun e w' => ∃ ab cb ac cc, e = .returned (.agg #[.slice ab 12 cb, .slice ac 0 cc]) ∧ DiskIs w' (zeroD 12) (.agg #[.slice ab 12 cb, .slice ac 0 cc]) ∧ Below w.heap.size w w' := by
  have HN := Lib.hid (fun W => (RNew_any 12 W).mono (fun _ _ => as_disk (nb := 12) (nc := 0) 0 (zeroD_new 12 (by decide) (by decide)) rfl rfl rfl))
  have k0 := World.alloc_heap_new w (.cells #[.slice none 0 0, .slice none 0 0] 25)
  have b0 := Go.Joins.below_alloc1 w (.cells #[.slice none 0 0, .slice none 0 0] 25)
  go_enter Tryd.func37, Tryd.ntmps37
  go_wp2_with fail
  refine (HN.out _).mono ?_
  rintro e w1 ⟨ab, cb, ac, cc, rfl, d1, b1⟩
  have k1 := heap_below k0 b1
  have t1 := b0.trans (b1.mono b0.size)
  have a1 := Go.Joins.below_alloc1 w1 (.cells #[.slice ab 12 cb, .slice ac 0 cc] 25)
  have n1 := World.alloc_heap_new w1 (.cells #[.slice ab 12 cb, .slice ac 0 cc] 25)
  have k2 := heap_below k1 a1
  have t2 := t1.trans (a1.mono t1.size)
  have d2 := d1.below a1
  have c0 := cell2_0 n1
  have c1 := cell2_1 n1
  have r0 := cell2_0 k2
  have r1 := cell2_1 k2
  have r2 := frozen2 k2 0
  have r3 := frozen2 k2 1
  have hP := Lib.hid (show DiskIs (((w1.alloc (.cells #[.slice ab 12 cb, .slice ac 0 cc] 25)).setCell ⟨w.heap.size, 0, none⟩ (.slice ab 12 cb)).setCell ⟨w.heap.size, 1, none⟩ (.slice ac 0 cc)) (zeroD 12) _ from disk_apart (disk_apart d2 k2) (Lib.heap_setCell_same (i := 0) k2 (.slice ab 12 cb)))
  clear d1 d2 b0 b1 k0 k1 t1 a1 n1
  go_wp2
  refine bodyPost_ret (results_cellR rfl _ _ w.heap.size _ _ _ _ rfl (set_two k2) Tryd.underlying25 rfl (by kernel_rfl)) rfl ?_
  exact ⟨_, _, _, _, rfl, hP.out, below_set (below_set t2 (Nat.le_refl _)) (Nat.le_refl _)⟩
end Go.Proofs.YthhghggaoljcbaaDoor
