/- The walk of the reference's Write, chapter 11 (disk). -/
import Derived.Test.YthhghggaoljcbaaDoorDiskW
import Derived.Test.YthhghggaoljcbaaDoorDiskY
namespace Go.Proofs.YthhghggaoljcbaaDoor
open Go.RowKit Disk11

theorem two_keep {w w' : World} {base e e' size n G : Nat} {v : Value} {xs : List Value} {cs : Array Value} (h : w.ownsRow base e size v n xs) (hg : w.grownBy w' v.ownBlock) (hG : w.heap[G]? = some (.cells cs e' (0, 0))) (hne : e ≠ e') : w'.heap[G]? = some (.cells cs e' (0, 0)) := by
  refine (hg.block G (Array.getElem?_eq_some_iff.1 hG).1 (fun e1 => ?_)).trans hG
  rcases h.2 with ⟨rfl, _⟩ | ⟨g, cap, cur, rfl, _, hh, _⟩
  · simp [Value.ownBlock] at e1
  · simp only [Value.ownBlock, Option.some.injEq] at e1
    subst e1
    rw [hG] at hh; cases hh; exact hne rfl
set_option maxHeartbeats 4000000 in
set_option maxRecDepth 100000 in
theorem RWrite_any (d : Dev) (v : Value) (p : Int) (x : List UInt8) (w : World) (h : DiskIs w d v) :
    Calls Tryd.prog 55 #[v, .int .i64 p, .string ⟨x.toArray⟩] w fun e w' => ∃ v', e = .returned (.tuple #[v', .int .i64 (writeD d p x).2]) ∧ DiskIs w' (writeD d p x).1 v' ∧ Below w.heap.size w w' := by
  have HC := Lib.hid (fun W h => RCheck_any d v W h)
  have HI := Lib.hid (fun W hl => within_any (size d) p x.length W hl)
  have HL := Lib.hid (fun W h hl hl2 => copied_any d v W h hl hl2)
  have hD := Lib.hid h
  have hgd : (chk d).1 = 0 → d.1.length ≤ 4096 ∧ d.2.length ≤ 1000 := fun h => by
    have := (chk_good d).1 (chk_ok h)
    exact ⟨this.2.1, this.2.2.2.1⟩
  obtain ⟨r, hr⟩ : ∃ r, r = writeD d p x := ⟨_, rfl⟩
  rw [← hr]
  unfold writeD at hr
  obtain ⟨c, hc⟩ : ∃ c, c = chk d := ⟨_, rfl⟩
  rw [← hc] at hr hgd HC
  clear hc
  obtain ⟨c1, c2⟩ := c
  dsimp only at hr hgd HC
  obtain ⟨ab, cb, ac, cc, rfl, _, _, hbc, hcc⟩ := h.form
  clear h
  by_cases h0 : c1 = 0
  · subst h0
    obtain ⟨hl, hl2⟩ := hgd rfl
    clear hgd
    rw [if_neg (by simp)] at hr
    clear hbc hcc
    have bad : ∀ w1 W1 (e : Nat), Below w.heap.size w w1 → w1.heap[w.heap.size + 1]? = some (.cells #[.slice none 0 0, .slice none 0 0] 25) → W1 = (w1.setCell ⟨w.heap.size + 1, 0, none⟩ (.slice none 0 0)).setCell ⟨w.heap.size + 1, 1, none⟩ (.slice none 0 0) → r = (none0, e) → ∃ cs, W1.heap[w.heap.size + 1]? = some (.cells cs 25 (0, 0)) ∧ cs.size = 2 ∧ r.2 = e ∧ DiskIs W1 r.1 (.agg cs) ∧ Below w.heap.size w W1 := by
      rintro w1 W1 e hb hk rfl rfl
      exact ⟨_, set_two hk, rfl, rfl, DiskIs.none _, below_set (below_set hb (by omega)) (by omega)⟩
    have hBad := Lib.hid bad
    clear bad
    go_enter Tryd.func55, Tryd.ntmps55
    go_wp2_with fail
    obtain ⟨k1, k2, hsz, hbl⟩ := alloc2 w (.cells #[.slice ab d.1.length cb, .slice ac d.2.length cc] 25) (.cells #[.slice none 0 0, .slice none 0 0] 25)
    refine (HC.out _ (hD.out.below hbl)).mono ?_
    rintro e w1 ⟨rfl, b1⟩
    have k1' := heap_below k1 b1
    have k2' := heap_below k2 b1
    have hb1 := hbl.trans (b1.mono hbl.size)
    have c0 := cell2_0 k1'
    have c1 := cell2_1 k1'
    have r0 := cell2_0 k2'
    have r1 := cell2_1 k2'
    have f0 := frozen2 k2' 0
    have f1 := frozen2 k2' 1
    by_cases hx : x = []
    · subst hx
      have hr2 : r = (none0, 2) := by rw [hr]; rfl
      clear hr
      go_wp2
      obtain ⟨cs, q1, q2, q3, q4, q5⟩ := hBad.out _ _ _ hb1 k2' rfl hr2
      exact bodyPost_ret (results_cell_tmp rfl _ _ (w.heap.size + 1) _ _ _ _ rfl q1 Tryd.underlying25 rfl (by rw [q2]; kernel_rfl)) rfl ⟨_, by rw [q3]; rfl, q4, q5⟩
    · have hx' : x.isEmpty = false := by cases x <;> simp_all
      have hxl : ((x.length : Int) == 0) = false := by cases x <;> simp_all; omega
      have hsz0 : ((size d : Nat) : Int) = 64 * (d.1.length : Int) := by unfold Disk11.size; omega
      rw [hx', Bool.false_or] at hr
      go_wp2_with fail
      have HIn := HI.out w1 (by rw [hsz0]; omega)
      rw [hsz0] at HIn
      refine HIn.mono ?_
      rintro e w2 ⟨rfl, hw⟩
      subst w2
      rw [← hsz0]
      clear hsz0 HIn
      obtain ⟨i, hi⟩ : ∃ i, i = inside (size d) p x.length := ⟨_, rfl⟩
      rw [← hi] at hr ⊢
      clear hi hx
      cases i with
      | false =>
        have hr2 : r = (none0, 2) := by rw [hr]; rfl
        clear hr
        go_wp2
        obtain ⟨cs, q1, q2, q3, q4, q5⟩ := hBad.out _ _ _ hb1 k2' rfl hr2
        exact bodyPost_ret (results_cell_tmp rfl _ _ (w.heap.size + 1) _ _ _ _ rfl q1 Tryd.underlying25 rfl (by rw [q2]; kernel_rfl)) rfl ⟨_, by rw [q3]; rfl, q4, q5⟩
      | true =>
        rw [Bool.not_true, if_neg (by simp)] at hr
        by_cases hfull : 1000 ≤ d.2.length
        · have hf' : ((d.2.length : Int) == 1000) = true := by simp; omega
          rw [if_pos hfull] at hr
          have hr2 := hr
          clear hr hfull
          go_wp2
          obtain ⟨cs, q1, q2, q3, q4, q5⟩ := hBad.out _ _ _ hb1 k2' rfl hr2
          exact bodyPost_ret (results_cell_tmp rfl _ _ (w.heap.size + 1) _ _ _ _ rfl q1 Tryd.underlying25 rfl (by rw [q2]; kernel_rfl)) rfl ⟨_, by rw [q3]; rfl, q4, q5⟩
        · have hf' : ((d.2.length : Int) == 1000) = false := by simp; omega
          rw [if_neg hfull] at hr
          have hr2 := Lib.hid hr
          clear hr hfull
          go_wp2_with fail
          refine (HL.out _ (hD.out.below hb1) hl (by omega)).mono ?_
          rintro e w3 ⟨vb, vc, rfl, ob, oc, b3⟩
          obtain ⟨adb, cpb, rfl⟩ := own_slice ob
          obtain ⟨adc, cpc, rfl⟩ := own_slice oc
          have hb3 := hb1.trans (b3.mono hb1.size)
          have j2 := heap_below k2' b3
          clear c0 c1 r0 r1 f0 f1
          have hw2 : w.heap.size + 2 ≤ w1.heap.size := by
            have := b1.size; omega
          have oc4 := World.ownsRow.alloc oc (.cells #[.slice adb d.1.length cpb, .slice adc d.2.length cpc] 25)
          have ob4 := World.ownsRow.alloc ob (.cells #[.slice adb d.1.length cpb, .slice adc d.2.length cpc] 25)
          have j1' := World.alloc_heap_new w3 (.cells #[.slice adb d.1.length cpb, .slice adc d.2.length cpc] 25)
          have j2' := heap_below j2 (Go.Joins.below_alloc1 w3 (.cells #[.slice adb d.1.length cpb, .slice adc d.2.length cpc] 25))
          have hb4 := hb3.alloc hb3.size (.cells #[.slice adb d.1.length cpb, .slice adc d.2.length cpc] 25)
          have hw3 := b3.size
          obtain ⟨i0, hi0, hz0, hz1, hz2⟩ := info_parts infoWr
          have hs4 : w1.heap.size ≤ (w3.alloc (.cells #[.slice adb d.1.length cpb, .slice adc d.2.length cpc] 25)).heap.size := Nat.le_trans b3.size (by simp)
          have c0 := cell2_0 j1'
          have c1 := cell2_1 j1'
          go_wp2_with (at_builtin; refine wpList_append_own _ rfl _ _ 23 rfl w1.heap.size 73 i0 (.agg #[.int .i64 0, .string ⟨#[]⟩]) 2 24 Tryd.underlying23 hi0 hz0 hz1 hz2 rfl (by decide) _ _ _ rfl (World.ownsRow.alloc oc4 _) ⟨(w3.alloc (.cells #[.slice adb d.1.length cpb, .slice adc d.2.length cpc] 25)).heap.size, 0, none⟩ 1 1 [.int .i64 p, .string ⟨x.toArray⟩] (by simp [go_sem]) rfl (cell_two_new _ _ _ _) (by intro u hu; simp at hu; rcases hu with rfl | rfl <;> rfl) (by unfold maxLen; omega) (by omega) (Nat.le_trans hs4 (by simp)) ?_; intro v5 w5 o5 g5 _
                       have ob5 := own_two (World.ownsRow.alloc ob4 (.cells #[.int .i64 p, .string ⟨x.toArray⟩] 73)) (World.ownsRow.alloc oc4 (.cells #[.int .i64 p, .string ⟨x.toArray⟩] 73)) g5 (by decide)
                       have b5 := ((Below.refl w1.heap.size (w3.alloc (.cells #[.slice adb d.1.length cpb, .slice adc d.2.length cpc] 25))).alloc hs4 (.cells #[.int .i64 p, .string ⟨x.toArray⟩] 73)).grown g5 (Nat.le_trans hs4 (by simp)) (fun k hk => (World.ownsRow.lt oc4 k hk).1)
                       have l1 := two_keep (World.ownsRow.alloc oc4 (.cells #[.int .i64 p, .string ⟨x.toArray⟩] 73)) g5 (heap_below j1' (Go.Joins.below_alloc1 _ (.cells #[.int .i64 p, .string ⟨x.toArray⟩] 73))) (by decide)
                       obtain ⟨ad5, cp5, rfl⟩ := own_slice o5
                       have l2 := (b5.block _ (by omega)).trans j2'
                       have c0' := cell2_0 l1
                       have c1' := cell2_1 l1
                       have g0' := frozen2 l1 0
                       have g1' := frozen2 l1 1
                       have r0' := cell2_0 l2
                       have r1' := cell2_1 l2
                       have f0' := frozen2 l2 0
                       have f1' := frozen2 l2 1)
          have hne : w.heap.size + 1 ≠ w3.heap.size := by omega
          have l3 := set_two (x' := .slice adb d.1.length cpb) (y' := .slice ad5 (d.2.length + 1) cp5) (one_other (b := w3.heap.size) (j := 1) (u := .slice ad5 (d.2.length + 1) cp5) hne l2)
          have t1 := own_set (b := w.heap.size + 1) (j := 1) (u := .slice ad5 (d.2.length + 1) cp5) (own_set (b := w.heap.size + 1) (j := 0) (u := .slice adb d.1.length cpb) (own_tag ob5 (grown_cell w5 w3.heap.size 1 (.slice ad5 (d.2.length + 1) cp5)) l1 (by decide)) (by omega)) (by omega)
          have t2 := own_set (b := w.heap.size + 1) (j := 1) (u := .slice ad5 (d.2.length + 1) cp5) (own_set (b := w.heap.size + 1) (j := 0) (u := .slice adb d.1.length cpb) (own_tag o5 (grown_cell w5 w3.heap.size 1 (.slice ad5 (d.2.length + 1) cp5)) l1 (by decide)) (by omega)) (by omega)
          rw [wrVals_snoc] at t2
          have bf := below_set (b := w.heap.size + 1) (j := 1) (u := .slice ad5 (d.2.length + 1) cp5) (below_set (b := w.heap.size + 1) (j := 0) (u := .slice adb d.1.length cpb) (below_set (b := w3.heap.size) (j := 1) (u := .slice ad5 (d.2.length + 1) cp5) (hb4.trans (b5.mono (by omega))) hb3.size) (by omega)) (by omega)
          have hr3 := hr2.out
          subst hr3
          refine bodyPost_ret (results_cell_tmp rfl _ _ (w.heap.size + 1) _ _ _ _ rfl l3 Tryd.underlying25 rfl (by kernel_rfl)) rfl ⟨_, rfl, ⟨_, _, rfl, Row.of_own t1, ?_⟩, bf⟩
          show Row _ 2 _ (d.2 ++ [(p, x)]).length _
          rw [List.length_append]
          exact Row.of_own t2
  · have h0' : ((c1 : Int) == 0) = false := by simp; omega
    rw [if_pos h0] at hr
    subst hr
    clear h0 hgd hbc hcc
    go_enter Tryd.func55, Tryd.ntmps55
    go_wp2_with fail
    obtain ⟨k1, k2, hsz, hbl⟩ := alloc2 w (.cells #[.slice ab d.1.length cb, .slice ac d.2.length cc] 25) (.cells #[.slice none 0 0, .slice none 0 0] 25)
    refine (HC.out _ (hD.out.below hbl)).mono ?_
    rintro e w1 ⟨rfl, b1⟩
    have k2' := heap_below k2 b1
    have r0 := cell2_0 k2'
    have r1 := cell2_1 k2'
    have f0 := frozen2 k2' 0
    have f1 := frozen2 k2' 1
    go_wp2
    refine bodyPost_ret (results_cell_tmp rfl _ _ (w.heap.size + 1) _ _ _ _ rfl (set_two k2') Tryd.underlying25 rfl (by kernel_rfl)) rfl ?_
    exact ⟨_, rfl, DiskIs.none _, below_set (below_set (hbl.trans (b1.mono hbl.size)) (by omega)) (by omega)⟩
end Go.Proofs.YthhghggaoljcbaaDoor
