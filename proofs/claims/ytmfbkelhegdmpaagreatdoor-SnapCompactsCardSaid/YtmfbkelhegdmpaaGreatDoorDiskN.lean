/- The walk of Crash, chapter 11 (disk). -/
import Derived.Test.YtmfbkelhegdmpaaGreatDoorDiskMU
namespace Go.Proofs.YtmfbkelhegdmpaaGreatDoor
open Go.RowKit Disk11

set_option maxRecDepth 100000 in
theorem str_take (y : List UInt8) (n : Nat) (h : n ≤ y.length) (W : World) : (Instr.slice 9 (.string ⟨y.toArray⟩) none (some (.int .i64 (n : Int))) none).run Tryz.prog W = .ok (.string ⟨(y.take n).toArray⟩) W := by
  have hs : (⟨y.toArray⟩ : ByteArray).size = y.length := rfl
  have h := run_slice_string_h (P := Tryz.prog) (w := W) 9 ⟨y.toArray⟩ Tryz.underlying9 .i64 (n : Int) (by omega) (by rw [hs]; omega)
  rw [h]
  congr 2
  apply ByteArray.ext
  rw [ByteArray.data_extract]
  apply Array.ext'
  rw [Array.toList_extract, List.extract_eq_take_drop, List.drop_zero, Int.toNat_natCast, Nat.sub_zero]

set_option maxHeartbeats 8000000 in
set_option maxRecDepth 100000 in
theorem Crash_any (d : Dev) (v : Value) (keep torn : Int) (w : World) (h : DiskIs w d v) :
    Calls Tryz.prog 28 #[v, .int .i64 keep, .int .i64 torn] w fun e w' => ∃ v', e = .returned (.tuple #[v', .int .i64 (crashD d keep torn).2]) ∧ DiskIs w' (crashD d keep torn).1 v' ∧ Below w.heap.size w w' := by
  have HC := Lib.hid (fun W h => Check_any d v W h)
  have HL := Lib.hid (fun n W h hg hn => laid_any d v n W h hg hn)
  have hD := Lib.hid h
  have hgd : (chk d).1 = 0 → Disk11.Good d := fun h => (chk_good d).1 (chk_ok h)
  obtain ⟨r, hr⟩ : ∃ r, r = crashD d keep torn := ⟨_, rfl⟩
  rw [← hr]
  unfold crashD at hr
  obtain ⟨c, hc⟩ : ∃ c, c = chk d := ⟨_, rfl⟩
  rw [← hc] at hr hgd HC
  clear hc
  obtain ⟨c1, c2⟩ := c
  dsimp only at hr hgd HC
  obtain ⟨ab, cb, ac, cc, rfl, _, _, _, hcc⟩ := h.form
  clear h
  by_cases h0 : c1 = 0
  · subst h0
    have hg := hgd rfl
    clear hgd
    rw [if_neg (by simp)] at hr
    have hl2 := hg.2.2.2.1
    have bad : ∀ w1 W1 (e : Nat), Below w.heap.size w w1 → w1.heap[w.heap.size + 1]? = some (.cells #[.slice none 0 0, .slice none 0 0] 29) → W1 = (w1.setCell ⟨w.heap.size + 1, 0, none⟩ (.slice none 0 0)).setCell ⟨w.heap.size + 1, 1, none⟩ (.slice none 0 0) → r = (none0, e) → ∃ cs, W1.heap[w.heap.size + 1]? = some (.cells cs 29 (0, 0)) ∧ cs.size = 2 ∧ r.2 = e ∧ DiskIs W1 r.1 (.agg cs) ∧ Below w.heap.size w W1 := by
      rintro w1 W1 e hb hk rfl rfl
      exact ⟨_, set_two hk, rfl, rfl, DiskIs.none _, below_set (below_set hb (by omega)) (by omega)⟩
    have hBad := Lib.hid bad
    clear bad
    go_enter Tryz.func28, Tryz.ntmps28
    go_wp2_with fail
    obtain ⟨k1, k2, hsz, hbl⟩ := alloc2 w (.cells #[.slice ab d.1.length cb, .slice ac d.2.length cc] 29) (.cells #[.slice none 0 0, .slice none 0 0] 29)
    refine (HC.out _ (hD.out.below hbl)).mono ?_
    rintro e w1 ⟨rfl, b1⟩
    have k1' := heap_below k1 b1
    have k2' := heap_below k2 b1
    have hb1 := hbl.trans (b1.mono hbl.size)
    have c0 := cell2_0 k1'
    have c1 := cell2_1 k1'
    have r0 := cell2_0 k2'
    have r1 := cell2_1 k2'
    have f0 := frozen2 k2' 0
    have f1 := frozen2 k2' 1
    by_cases hkb : keep < 0 ∨ (d.2.length : Int) < keep
    · rw [if_pos hkb] at hr
      by_cases hk : keep < 0
      · have hk' : decide (keep < 0) = true := by simpa using hk
        have hr2 := hr
        clear hr hkb hcc
        go_wp2
        obtain ⟨cs, q1, q2, q3, q4, q5⟩ := hBad.out _ _ _ hb1 k2' rfl hr2
        exact bodyPost_ret (results_cell_tmp rfl _ _ (w.heap.size + 1) _ _ _ _ rfl q1 Tryz.underlying29 rfl (by rw [q2]; kernel_rfl)) rfl ⟨_, by rw [q3]; rfl, q4, q5⟩
      · have hk' : decide (keep < 0) = false := by simp; omega
        have hk2 : decide ((d.2.length : Int) < keep) = true := by simp; omega
        have hr2 := hr
        clear hr hkb hcc
        go_wp2
        obtain ⟨cs, q1, q2, q3, q4, q5⟩ := hBad.out _ _ _ hb1 k2' rfl hr2
        exact bodyPost_ret (results_cell_tmp rfl _ _ (w.heap.size + 1) _ _ _ _ rfl q1 Tryz.underlying29 rfl (by rw [q2]; kernel_rfl)) rfl ⟨_, by rw [q3]; rfl, q4, q5⟩
    · rw [if_neg hkb] at hr
      obtain ⟨kn, rfl⟩ : ∃ kn : Nat, keep = (kn : Int) := ⟨keep.toNat, by omega⟩
      have hk' : decide ((kn : Int) < 0) = false := by simp
      have hk2 : decide ((d.2.length : Int) < kn) = false := by simp; omega
      have hkn : kn ≤ d.2.length := by omega
      rw [Int.toNat_natCast] at hr
      clear hkb
      have ha1 := Go.Joins.below_alloc1 w1 (.cells #[.int .i64 0, .string ⟨#[]⟩] 49)
      have hn0 := World.alloc_heap_new w1 (.cells #[.int .i64 0, .string ⟨#[]⟩] 49)
      have hw1 := b1.size
      have a0 := cell2_0 (heap_below k1' ha1)
      have a1 := cell2_1 (heap_below k1' ha1)
      by_cases hlt : kn < d.2.length
      · have hlt' : decide ((kn : Int) < d.2.length) = true := by simp; omega
        obtain ⟨a, rfl, q0, q1⟩ := hcc kn hlt
        have hnx : nextD d kn = d.2[kn] := by unfold nextD; rw [List.getElem?_eq_getElem hlt]; rfl
        have hga := good_at hg hlt
        rw [hnx] at hr
        obtain ⟨x, hx⟩ : ∃ x, x = d.2[kn] := ⟨_, rfl⟩
        rw [← hx] at q0 q1 hga hr
        obtain ⟨p, y⟩ := x
        dsimp only at q0 q1 hga hr
        obtain ⟨hp0, hpf⟩ := hga
        obtain ⟨pn, rfl⟩ : ∃ pn : Nat, p = (pn : Int) := ⟨p.toNat, by omega⟩
        rw [Int.toNat_natCast] at hpf hr
        have q0' := cell_below (hb1.trans (ha1.mono hb1.size)) q0
        have q1' := cell_next (cell_below (hb1.trans (ha1.mono hb1.size)) q1)
        have ha2 := Go.Joins.below_alloc1 w1 (.cells #[.int .i64 pn, .string ⟨y.toArray⟩] 49)
        have hn := World.alloc_heap_new w1 (.cells #[.int .i64 pn, .string ⟨y.toArray⟩] 49)
        have z0 := cell2_0 hn0
        have z1 := cell2_1 hn0
        have z2 := frozen2 hn0 0
        have z3 := frozen2 hn0 1
        have n0 := cell2_0 hn
        have n1 := cell2_1 hn
        have k1'' := heap_below k1' ha2
        have k2'' := heap_below k2' ha2
        have hbn := ha2
        have hbW := hb1.trans (hbn.mono hb1.size)
        have d0 := cell2_0 k1''
        have d1 := cell2_1 k1''
        have s0 := cell2_0 k2''
        have s1 := cell2_1 k2''
        have g0 := frozen2 k2'' 0
        have g1 := frozen2 k2'' 1
        by_cases ht1 : torn < 0
        · have ht1' : decide (torn < 0) = true := by simpa using ht1
          have hr2 : r = (none0, 2) := by rw [hr, if_pos (.inl ht1)]
          clear hr ht1 hcc
          go_wp2
          obtain ⟨cs, q1, q2, q3, q4, q5⟩ := hBad.out _ _ _ hbW k2'' rfl hr2
          exact bodyPost_ret (results_cell_tmp rfl _ _ (w.heap.size + 1) _ _ _ _ rfl q1 Tryz.underlying29 rfl (by rw [q2]; kernel_rfl)) rfl ⟨_, by rw [q3]; rfl, q4, q5⟩
        have ht1' : decide (torn < 0) = false := by simp; omega
        by_cases ht2 : (y.length : Int) < torn
        · have ht2' : decide ((y.length : Int) < torn) = true := by simpa using ht2
          have hr2 : r = (none0, 2) := by rw [hr, if_pos (.inr ht2)]
          clear hr ht1 ht2 hcc
          go_wp2
          obtain ⟨cs, q1, q2, q3, q4, q5⟩ := hBad.out _ _ _ hbW k2'' rfl hr2
          exact bodyPost_ret (results_cell_tmp rfl _ _ (w.heap.size + 1) _ _ _ _ rfl q1 Tryz.underlying29 rfl (by rw [q2]; kernel_rfl)) rfl ⟨_, by rw [q3]; rfl, q4, q5⟩
        obtain ⟨tn, rfl⟩ : ∃ tn : Nat, torn = (tn : Int) := ⟨torn.toNat, by omega⟩
        have ht2' : decide ((y.length : Int) < tn) = false := by simp; omega
        have htn : tn ≤ y.length := by omega
        have hr2 : r = ((chunk (layF (readK d kn) pn (y.take tn)), []), 0) := by rw [hr, if_neg (by omega), Int.toNat_natCast]
        have hHr := Lib.hid hr2
        have hst := str_take y tn htn
        clear hr hr2 ht1 ht2 hcc
        go_wp2_with fail
        generalize w1.alloc (.cells #[.int .i64 pn, .string ⟨y.toArray⟩] 49) = W2 at *
        refine (HL.out kn W2 (hD.out.below hbW) hg hkn).mono ?_
        rintro e w3 ⟨v3, rfl, o3, b3⟩
        obtain ⟨ad, cp, rfl⟩ := own_slice o3
        have hb3 := hbW.trans (b3.mono hbW.size)
        have hn3 := heap_below hn b3
        have k23 := heap_below k2'' b3
        have hal3 := Go.Joins.below_alloc1 w3 (.cells #[.slice ad d.1.length cp, .slice none 0 0] 29)
        have hf3 := World.alloc_heap_new w3 (.cells #[.slice ad d.1.length cp, .slice none 0 0] 29)
        have o4 := World.ownsRow.alloc o3 (.cells #[.slice ad d.1.length cp, .slice none 0 0] 29)
        clear n0 n1 d0 d1 s0 s1 g0 g1 c0 c1 r0 r1 f0 f1
        have x0 := cell2_0 (heap_below hn3 hal3)
        have x1 := cell2_1 (heap_below hn3 hal3)
        have x2 := cell2_0 hf3
        have x3 := cell2_1 hf3
        go_wp2
        generalize hW4 : w3.alloc (.cells #[.slice ad d.1.length cp, .slice none 0 0] 29) = W4 at *
        have hcr := chunk_readK hg kn
        have HLy := Lib.hid (lay_any (chunk (readK d kn)) pn (y.take tn) (.slice ad d.1.length cp) W2.heap.size W4.drew (by rw [hcr.1]; exact World.ownsRow.drew o4) (chunk_whole _) (by rw [hcr.1]; (first | exact (by rw [List.length_take]; omega) | (rw [List.length_take]; omega))) (by rw [hcr.1]; exact hg.2.1) (Nat.le_trans b3.size hal3.size))
        rw [hcr.1, hcr.2] at HLy
        have k24 := heap_below k23 hal3
        go_region_with (go_at_call 76; refine HLy.out.mono ?_; rintro e w5 ⟨rfl, o5, b5, g5⟩)
        all_goals
          have t11 := two_keep (World.ownsRow.drew o4) g5 (show W4.drew.heap[w3.heap.size]? = _ from hf3) (by decide)
          have t6 := two_keep (World.ownsRow.drew o4) g5 (show W4.drew.heap[w.heap.size + 1]? = _ from k24) (by decide)
          have y0 := cell2_0 t11
          have y1 := cell2_1 t11
          have y2 := cell2_0 t6
          have y3 := cell2_1 t6
          have y4 := frozen2 t6 0
          have y5 := frozen2 t6 1
          clear x0 x1 x2 x3
          go_wp2
          have hW2 : w.heap.size + 2 ≤ W2.heap.size := by have := hbn.size; omega
          have o6 := own_set (b := w.heap.size + 1) (j := 1) (u := .slice none 0 0) (own_set (b := w.heap.size + 1) (j := 0) (u := .slice ad d.1.length cp) o5 (by omega)) (by omega)
          have hlen : (chunk (layF (readK d kn) pn (y.take tn))).length = d.1.length := by
            rw [chunk_length, layF_length (by rw [readK_length hg]; (first | exact (by rw [List.length_take]; omega) | (rw [List.length_take]; omega))), readK_length hg]; omega
          have hbf := below_set (b := w.heap.size + 1) (j := 1) (u := .slice none 0 0) (below_set (b := w.heap.size + 1) (j := 0) (u := .slice ad d.1.length cp) ((hb3.trans (hal3.mono hb3.size)).drew.trans (b5.mono (by omega))) (by omega)) (by omega)
          have hr3 := hHr.out
          subst hr3
          refine bodyPost_ret (results_cell_tmp rfl _ _ (w.heap.size + 1) _ _ _ _ rfl (set_two t6) Tryz.underlying29 rfl (by kernel_rfl)) rfl ⟨_, rfl, ⟨_, _, rfl, ?_, Row.nil _ _⟩, hbf⟩
          show Row _ 1 _ (chunk (layF (readK d kn) pn (y.take tn))).length _
          rw [hlen]
          exact Row.of_own o6
      · have hlt' : decide ((kn : Int) < d.2.length) = false := by simp; omega
        have hnx : nextD d kn = (0, []) := by unfold nextD; rw [List.getElem?_eq_none (by omega)]; rfl
        rw [hnx] at hr
        dsimp only at hr
        have k1'' := heap_below k1' ha1
        have k2'' := heap_below k2' ha1
        have hn := hn0
        have hbn := ha1
        have hbW := hb1.trans (ha1.mono hb1.size)
        have n0 := cell2_0 hn
        have n1 := cell2_1 hn
        have s0 := cell2_0 k2''
        have s1 := cell2_1 k2''
        have g0 := frozen2 k2'' 0
        have g1 := frozen2 k2'' 1
        by_cases ht1 : torn < 0
        · have ht1' : decide (torn < 0) = true := by simpa using ht1
          have hr2 : r = (none0, 2) := by rw [hr, if_pos (.inl ht1)]
          clear hr ht1 hcc
          go_wp2
          obtain ⟨cs, q1, q2, q3, q4, q5⟩ := hBad.out _ _ _ hbW k2'' rfl hr2
          exact bodyPost_ret (results_cell_tmp rfl _ _ (w.heap.size + 1) _ _ _ _ rfl q1 Tryz.underlying29 rfl (by rw [q2]; kernel_rfl)) rfl ⟨_, by rw [q3]; rfl, q4, q5⟩
        have ht1' : decide (torn < 0) = false := by simp; omega
        by_cases ht2 : (0 : Int) < torn
        · have ht2' : decide ((0 : Int) < torn) = true := by simpa using ht2
          have hr2 : r = (none0, 2) := by rw [hr, if_pos (.inr ht2)]
          clear hr ht1 ht2 hcc
          go_wp2
          obtain ⟨cs, q1, q2, q3, q4, q5⟩ := hBad.out _ _ _ hbW k2'' rfl hr2
          exact bodyPost_ret (results_cell_tmp rfl _ _ (w.heap.size + 1) _ _ _ _ rfl q1 Tryz.underlying29 rfl (by rw [q2]; kernel_rfl)) rfl ⟨_, by rw [q3]; rfl, q4, q5⟩
        obtain ⟨tn, rfl⟩ : ∃ tn : Nat, torn = (tn : Int) := ⟨torn.toNat, by omega⟩
        have ht2' : decide ((0 : Int) < tn) = false := by simp; omega
        obtain rfl : tn = 0 := by omega
        have hr2 : r = ((chunk (layF (readK d kn) 0 (([] : List UInt8).take 0)), []), 0) := by rw [hr, if_neg (by simp)]; rfl
        have hHr := Lib.hid hr2
        have hst := str_take [] 0 (Nat.le_refl _)
        clear hr hr2 ht1 ht2 hcc
        go_wp2_with fail
        generalize w1.alloc (.cells #[.int .i64 0, .string ⟨#[]⟩] 49) = W2 at *
        refine (HL.out kn W2 (hD.out.below hbW) hg hkn).mono ?_
        rintro e w3 ⟨v3, rfl, o3, b3⟩
        obtain ⟨ad, cp, rfl⟩ := own_slice o3
        have hb3 := hbW.trans (b3.mono hbW.size)
        have hn3 := heap_below hn b3
        have k23 := heap_below k2'' b3
        have hal3 := Go.Joins.below_alloc1 w3 (.cells #[.slice ad d.1.length cp, .slice none 0 0] 29)
        have hf3 := World.alloc_heap_new w3 (.cells #[.slice ad d.1.length cp, .slice none 0 0] 29)
        have o4 := World.ownsRow.alloc o3 (.cells #[.slice ad d.1.length cp, .slice none 0 0] 29)
        clear n0 n1 s0 s1 g0 g1 c0 c1 r0 r1 f0 f1
        have x0 := cell2_0 (heap_below hn3 hal3)
        have x1 := cell2_1 (heap_below hn3 hal3)
        have x2 := cell2_0 hf3
        have x3 := cell2_1 hf3
        go_wp2
        generalize hW4 : w3.alloc (.cells #[.slice ad d.1.length cp, .slice none 0 0] 29) = W4 at *
        have hcr := chunk_readK hg kn
        have HLy := Lib.hid (lay_any (chunk (readK d kn)) 0 (([] : List UInt8).take 0) (.slice ad d.1.length cp) W2.heap.size W4.drew (by rw [hcr.1]; exact World.ownsRow.drew o4) (chunk_whole _) (by rw [hcr.1]; simp) (by rw [hcr.1]; exact hg.2.1) (Nat.le_trans b3.size hal3.size))
        rw [hcr.1, hcr.2] at HLy
        have k24 := heap_below k23 hal3
        go_region_with (go_at_call 76; refine HLy.out.mono ?_; rintro e w5 ⟨rfl, o5, b5, g5⟩)
        all_goals
          have t11 := two_keep (World.ownsRow.drew o4) g5 (show W4.drew.heap[w3.heap.size]? = _ from hf3) (by decide)
          have t6 := two_keep (World.ownsRow.drew o4) g5 (show W4.drew.heap[w.heap.size + 1]? = _ from k24) (by decide)
          have y0 := cell2_0 t11
          have y1 := cell2_1 t11
          have y2 := cell2_0 t6
          have y3 := cell2_1 t6
          have y4 := frozen2 t6 0
          have y5 := frozen2 t6 1
          clear x0 x1 x2 x3
          go_wp2
          have hW2 : w.heap.size + 2 ≤ W2.heap.size := by have := hbn.size; omega
          have o6 := own_set (b := w.heap.size + 1) (j := 1) (u := .slice none 0 0) (own_set (b := w.heap.size + 1) (j := 0) (u := .slice ad d.1.length cp) o5 (by omega)) (by omega)
          have hlen : (chunk (layF (readK d kn) 0 (([] : List UInt8).take 0))).length = d.1.length := by
            rw [chunk_length, layF_length (by rw [readK_length hg]; simp), readK_length hg]; omega
          have hbf := below_set (b := w.heap.size + 1) (j := 1) (u := .slice none 0 0) (below_set (b := w.heap.size + 1) (j := 0) (u := .slice ad d.1.length cp) ((hb3.trans (hal3.mono hb3.size)).drew.trans (b5.mono (by omega))) (by omega)) (by omega)
          have hr3 := hHr.out
          subst hr3
          refine bodyPost_ret (results_cell_tmp rfl _ _ (w.heap.size + 1) _ _ _ _ rfl (set_two t6) Tryz.underlying29 rfl (by kernel_rfl)) rfl ⟨_, rfl, ⟨_, _, rfl, ?_, Row.nil _ _⟩, hbf⟩
          show Row _ 1 _ (chunk (layF (readK d kn) 0 (([] : List UInt8).take 0))).length _
          rw [hlen]
          exact Row.of_own o6
  · clear HL
    have h0' : ((c1 : Int) == 0) = false := by simp; omega
    rw [if_pos h0] at hr
    subst hr
    clear h0 hgd
    go_enter Tryz.func28, Tryz.ntmps28
    go_wp2_with fail
    obtain ⟨k1, k2, hsz, hbl⟩ := alloc2 w (.cells #[.slice ab d.1.length cb, .slice ac d.2.length cc] 29) (.cells #[.slice none 0 0, .slice none 0 0] 29)
    refine (HC.out _ (hD.out.below hbl)).mono ?_
    rintro e w1 ⟨rfl, b1⟩
    have k2' := heap_below k2 b1
    have r0 := cell2_0 k2'
    have r1 := cell2_1 k2'
    have f0 := frozen2 k2' 0
    have f1 := frozen2 k2' 1
    go_wp2
    refine bodyPost_ret (results_cell_tmp rfl _ _ (w.heap.size + 1) _ _ _ _ rfl (set_two k2') Tryz.underlying29 rfl (by kernel_rfl)) rfl ?_
    exact ⟨_, rfl, DiskIs.none _, below_set (below_set (hbl.trans (b1.mono hbl.size)) (by omega)) (by omega)⟩
end Go.Proofs.YtmfbkelhegdmpaaGreatDoor
