/- The walk of Write, chapter 11 (disk). -/
import Derived.Test.YthhghggaoljcbaaDoorDiskC
namespace Go.Proofs.YthhghggaoljcbaaDoor
open Go.RowKit Disk11

theorem wrVals_snoc (l : List Wr) (p : Int) (x : List UInt8) : wrVals l ++ [.int .i64 p, .string ⟨x.toArray⟩] = wrVals (l ++ [(p, x)]) := by
  rw [wrVals_append]; rfl

theorem cell_two_new (w : World) (x y : Value) (t : TypeId) : ∀ j u, [x, y][j]? = some u → (w.alloc (.cells #[x, y] t)).cell? ((⟨w.heap.size, 0, none⟩ : Addr).add j) = some u := by
  intro j u hj
  match j, hj with
  | 0, hj => simp at hj; subst hj; simp [Addr.add]
  | 1, hj => simp at hj; subst hj; simp [Addr.add]
theorem results_cell_tmp {fn : Func} {P : Program} {p u : Tmp} {ty : TypeId} (h : fn.results = #[.cell p ty, .tmp u]) (tmps : Array Value) (w : World) (g : Nat) (t : TypeId) (cs : Array Value) (fr : Nat × Nat) (d : TypeDesc)
    (hp : tmps.getD p undef = .pointer (some ⟨g, 0, none⟩)) (hg : w.heap[g]? = some (.cells cs t fr))
    (hu : P.underlying ty = some d) (hd : (match d with | .struct _ | .array _ _ => true | _ => false) = true) (hi : (P.info? ty).map (·.size) = some cs.size) :
    (results fn tmps).run P w = .ok (.tuple #[.agg cs, tmps.getD u undef]) w := by
  have hp' : tmps[p]?.getD undef = .pointer (some ⟨g, 0, none⟩) := by simpa using hp
  simp [results, h, hp', asAddr, Result.andThen, run_loadVar_row w g t ty cs fr d hg hu hd hi]
theorem set_two {w : World} {b t : Nat} {x y x' y' : Value} (h : w.heap[b]? = some (.cells #[x, y] t (0, 0))) : ((w.setCell ⟨b, 0, none⟩ x').setCell ⟨b, 1, none⟩ y').heap[b]? = some (.cells #[x', y'] t (0, 0)) :=
  Lib.heap_setCell_same (i := 1) (Lib.heap_setCell_same (i := 0) h x') y'
theorem own_two {w w' : World} {base base' e e' size size' n n' : Nat} {v v' : Value} {xs xs' : List Value} (h : w.ownsRow base e size v n xs) (h' : w.ownsRow base' e' size' v' n' xs') (hg : w.grownBy w' v'.ownBlock) (hne : e ≠ e') : w'.ownsRow base e size v n xs :=
  World.ownsRow.kept h hg (by
    rcases h.2 with ⟨rfl, _⟩ | ⟨g, cap, cur, rfl, _, hh, _⟩
    · exact Or.inl rfl
    · rcases h'.2 with ⟨rfl, _⟩ | ⟨g', cap', cur', rfl, _, hh', _⟩
      · exact Or.inr (by simp [Value.ownBlock])
      · refine Or.inr (fun e1 => hne ?_)
        simp only [Value.ownBlock, Option.some.injEq] at e1
        subst e1
        rw [hh'] at hh; cases hh; rfl)
theorem two_other {w : World} {b b' j j' : Nat} {u u' : Value} {o : Obj} (hne : b' ≠ b) (h : w.heap[b']? = some o) : ((w.setCell ⟨b, j, none⟩ u).setCell ⟨b, j', none⟩ u').heap[b']? = some o := by
  have h1 := (grown_cell w b j u).block b' (Array.getElem?_eq_some_iff.1 h).1 (fun e => hne (by cases e; rfl))
  have h2 := (grown_cell (w.setCell ⟨b, j, none⟩ u) b j' u').block b' (by rw [← h1] at h; exact (Array.getElem?_eq_some_iff.1 h).1) (fun e => hne (by cases e; rfl))
  rw [h2, h1]; exact h
theorem one_other {w : World} {b b' j : Nat} {u : Value} {o : Obj} (hne : b' ≠ b) (h : w.heap[b']? = some o) : (w.setCell ⟨b, j, none⟩ u).heap[b']? = some o := by
  have h1 := (grown_cell w b j u).block b' (Array.getElem?_eq_some_iff.1 h).1 (fun e => hne (by cases e; rfl))
  rw [h1]; exact h

set_option maxHeartbeats 4000000 in
set_option maxRecDepth 100000 in
theorem Write_any (d : Dev) (v : Value) (p : Int) (x : List UInt8) (w : World) (h : DiskIs w d v) :
    Calls Tryd.prog 42 #[v, .int .i64 p, .string ⟨x.toArray⟩] w fun e w' => ∃ v', e = .returned (.tuple #[v', .int .i64 (writeD d p x).2]) ∧ DiskIs w' (writeD d p x).1 v' ∧ Below w.heap.size w w' := by
  have HC := Lib.hid (fun W h => Check_any d v W h)
  have HI := Lib.hid (fun W h hl => inside_any d v p x.length W h hl)
  have HL := Lib.hid (fun W h hl hl2 => clone_any d v W h hl hl2)
  have hD := Lib.hid h
  have hgd : (chk d).1 = 0 → d.1.length ≤ 4096 ∧ d.2.length ≤ 1000 := fun h => by
    have := (chk_good d).1 (chk_ok h)
    exact ⟨this.2.1, this.2.2.2.1⟩
  obtain ⟨r, hr⟩ : ∃ r, r = writeD d p x := ⟨_, rfl⟩
  rw [← hr]
  unfold writeD at hr
  obtain ⟨c, hc⟩ : ∃ c, c = chk d := ⟨_, rfl⟩
  rw [← hc] at hr hgd HC
  clear hc
  obtain ⟨c1, c2⟩ := c
  dsimp only at hr hgd HC
  obtain ⟨ab, cb, ac, cc, rfl, _, _, hbc, hcc⟩ := h.form
  clear h
  by_cases h0 : c1 = 0
  · subst h0
    obtain ⟨hl, hl2⟩ := hgd rfl
    clear hgd
    rw [if_neg (by simp)] at hr
    clear hbc hcc
    have bad : ∀ w1 W1 (e : Nat), Below w.heap.size w w1 → w1.heap[w.heap.size + 1]? = some (.cells #[.slice none 0 0, .slice none 0 0] 25) → W1 = (w1.setCell ⟨w.heap.size + 1, 0, none⟩ (.slice none 0 0)).setCell ⟨w.heap.size + 1, 1, none⟩ (.slice none 0 0) → r = (none0, e) → ∃ cs, W1.heap[w.heap.size + 1]? = some (.cells cs 25 (0, 0)) ∧ cs.size = 2 ∧ r.2 = e ∧ DiskIs W1 r.1 (.agg cs) ∧ Below w.heap.size w W1 := by
      rintro w1 W1 e hb hk rfl rfl
      exact ⟨_, set_two hk, rfl, rfl, DiskIs.none _, below_set (below_set hb (by omega)) (by omega)⟩
    have hBad := Lib.hid bad
    clear bad
    go_enter Tryd.func42, Tryd.ntmps42
    go_wp2_with fail
    obtain ⟨k1, k2, hsz, hbl⟩ := alloc2 w (.cells #[.slice ab d.1.length cb, .slice ac d.2.length cc] 25) (.cells #[.slice none 0 0, .slice none 0 0] 25)
    refine (HC.out _ (hD.out.below hbl)).mono ?_
    rintro e w1 ⟨rfl, b1⟩
    have k1' := heap_below k1 b1
    have k2' := heap_below k2 b1
    have hb1 := hbl.trans (b1.mono hbl.size)
    have c0 := cell2_0 k1'
    have c1 := cell2_1 k1'
    have r0 := cell2_0 k2'
    have r1 := cell2_1 k2'
    have f0 := frozen2 k2' 0
    have f1 := frozen2 k2' 1
    by_cases hx : x = []
    · subst hx
      have hr2 : r = (none0, 2) := by rw [hr]; rfl
      clear hr
      go_wp2
      obtain ⟨cs, q1, q2, q3, q4, q5⟩ := hBad.out _ _ _ hb1 k2' rfl hr2
      exact bodyPost_ret (results_cell_tmp rfl _ _ (w.heap.size + 1) _ _ _ _ rfl q1 Tryd.underlying25 rfl (by rw [q2]; kernel_rfl)) rfl ⟨_, by rw [q3]; rfl, q4, q5⟩
    · have hx' : x.isEmpty = false := by cases x <;> simp_all
      rw [hx', Bool.false_or] at hr
      go_wp2_with fail
      refine (HI.out _ (hD.out.below hb1) hl).mono ?_
      rintro e w2 ⟨rfl, b2⟩
      have hb2 := hb1.trans (b2.mono hb1.size)
      have k1'' := heap_below k1' b2
      have k2'' := heap_below k2' b2
      clear c0 c1 r0 r1 f0 f1
      have c0 := cell2_0 k1''
      have c1 := cell2_1 k1''
      have r0 := cell2_0 k2''
      have r1 := cell2_1 k2''
      have f0 := frozen2 k2'' 0
      have f1 := frozen2 k2'' 1
      obtain ⟨i, hi⟩ : ∃ i, i = inside (size d) p x.length := ⟨_, rfl⟩
      rw [← hi] at hr ⊢
      clear hi hx
      cases i with
      | false =>
        have hr2 : r = (none0, 2) := by rw [hr]; rfl
        clear hr
        go_wp2
        obtain ⟨cs, q1, q2, q3, q4, q5⟩ := hBad.out _ _ _ hb2 k2'' rfl hr2
        exact bodyPost_ret (results_cell_tmp rfl _ _ (w.heap.size + 1) _ _ _ _ rfl q1 Tryd.underlying25 rfl (by rw [q2]; kernel_rfl)) rfl ⟨_, by rw [q3]; rfl, q4, q5⟩
      | true =>
        rw [Bool.not_true, if_neg (by simp)] at hr
        by_cases hfull : 1000 ≤ d.2.length
        · have hf' : decide ((1000 : Int) ≤ d.2.length) = true := by simp; omega
          rw [if_pos hfull] at hr
          have hr2 := hr
          clear hr hfull
          go_wp2
          obtain ⟨cs, q1, q2, q3, q4, q5⟩ := hBad.out _ _ _ hb2 k2'' rfl hr2
          exact bodyPost_ret (results_cell_tmp rfl _ _ (w.heap.size + 1) _ _ _ _ rfl q1 Tryd.underlying25 rfl (by rw [q2]; kernel_rfl)) rfl ⟨_, by rw [q3]; rfl, q4, q5⟩
        · have hf' : decide ((1000 : Int) ≤ d.2.length) = false := by simp; omega
          rw [if_neg hfull] at hr
          have hr2 := Lib.hid hr
          clear hr hfull
          go_wp2_with fail
          refine (HL.out _ (hD.out.below hb2) hl (by omega)).mono ?_
          rintro e w3 ⟨vb, vc, rfl, ob, oc, b3⟩
          obtain ⟨adb, cpb, rfl⟩ := own_slice ob
          obtain ⟨adc, cpc, rfl⟩ := own_slice oc
          have hb3 := hb2.trans (b3.mono hb2.size)
          have j1 := heap_below k1'' b3
          have j2 := heap_below k2'' b3
          clear c0 c1 r0 r1 f0 f1
          have c0 := cell2_0 j1
          have c1 := cell2_1 j1
          have g0 := frozen2 j1 0
          have g1 := frozen2 j1 1
          have hw2 : w.heap.size + 2 ≤ w2.heap.size := by
            have := b1.size; have := b2.size; omega
          have oc4 := own_set (b := w.heap.size) (j := 1) (u := .slice adc d.2.length cpc) (own_set (b := w.heap.size) (j := 0) (u := .slice adb d.1.length cpb) oc (by omega)) (by omega)
          have ob4 := own_set (b := w.heap.size) (j := 1) (u := .slice adc d.2.length cpc) (own_set (b := w.heap.size) (j := 0) (u := .slice adb d.1.length cpb) ob (by omega)) (by omega)
          have j1' := set_two (x' := .slice adb d.1.length cpb) (y' := .slice adc d.2.length cpc) j1
          have j2' := two_other (b := w.heap.size) (j := 0) (j' := 1) (u := .slice adb d.1.length cpb) (u' := .slice adc d.2.length cpc) (by omega) j2
          have hb4 := below_set (b := w.heap.size) (j := 1) (u := .slice adc d.2.length cpc) (below_set (b := w.heap.size) (j := 0) (u := .slice adb d.1.length cpb) hb3 (Nat.le_refl _)) (Nat.le_refl _)
          obtain ⟨i0, hi0, hz0, hz1, hz2⟩ := info_parts infoWr
          have hs4 : w2.heap.size ≤ ((w3.setCell ⟨w.heap.size, 0, none⟩ (.slice adb d.1.length cpb)).setCell ⟨w.heap.size, 1, none⟩ (.slice adc d.2.length cpc)).heap.size := Nat.le_trans b3.size (Nat.le_trans (grown_cell w3 w.heap.size 0 _).size (grown_cell _ w.heap.size 1 _).size)
          go_wp2_with (at_builtin; refine wpList_append_own _ rfl _ _ 23 rfl w2.heap.size 73 i0 (.agg #[.int .i64 0, .string ⟨#[]⟩]) 2 24 Tryd.underlying23 hi0 hz0 hz1 hz2 rfl (by decide) _ _ _ rfl (World.ownsRow.alloc oc4 _) ⟨((w3.setCell ⟨w.heap.size, 0, none⟩ (.slice adb d.1.length cpb)).setCell ⟨w.heap.size, 1, none⟩ (.slice adc d.2.length cpc)).heap.size, 0, none⟩ 1 1 [.int .i64 p, .string ⟨x.toArray⟩] (by simp [go_sem]) rfl (cell_two_new _ _ _ _) (by intro u hu; simp at hu; rcases hu with rfl | rfl <;> rfl) (by unfold maxLen; omega) (by omega) (Nat.le_trans hs4 (by simp)) ?_; intro v5 w5 o5 g5 _
                       have b5 := ((Below.refl w2.heap.size ((w3.setCell ⟨w.heap.size, 0, none⟩ (.slice adb d.1.length cpb)).setCell ⟨w.heap.size, 1, none⟩ (.slice adc d.2.length cpc))).alloc hs4 (.cells #[.int .i64 p, .string ⟨x.toArray⟩] 73)).grown g5 (Nat.le_trans hs4 (by simp)) (fun k hk => (World.ownsRow.lt oc4 k hk).1)
                       have ob5 := own_two (World.ownsRow.alloc ob4 (.cells #[.int .i64 p, .string ⟨x.toArray⟩] 73)) (World.ownsRow.alloc oc4 (.cells #[.int .i64 p, .string ⟨x.toArray⟩] 73)) g5 (by decide)
                       obtain ⟨ad5, cp5, rfl⟩ := own_slice o5
                       have l1 := (b5.block _ (by omega)).trans j1'
                       have l2 := (b5.block _ (by omega)).trans j2'
                       have c0' := cell2_0 l1
                       have c1' := cell2_1 l1
                       have g0' := frozen2 l1 0
                       have g1' := frozen2 l1 1
                       have r0' := cell2_0 l2
                       have r1' := cell2_1 l2
                       have f0' := frozen2 l2 0
                       have f1' := frozen2 l2 1)
          have l3 := set_two (x' := .slice adb d.1.length cpb) (y' := .slice ad5 (d.2.length + 1) cp5) (one_other (b := w.heap.size) (j := 1) (u := .slice ad5 (d.2.length + 1) cp5) (by omega) l2)
          have t1 := own_set (b := w.heap.size + 1) (j := 1) (u := .slice ad5 (d.2.length + 1) cp5) (own_set (b := w.heap.size + 1) (j := 0) (u := .slice adb d.1.length cpb) (own_set (b := w.heap.size) (j := 1) (u := .slice ad5 (d.2.length + 1) cp5) ob5 (by omega)) (by omega)) (by omega)
          have t2 := own_set (b := w.heap.size + 1) (j := 1) (u := .slice ad5 (d.2.length + 1) cp5) (own_set (b := w.heap.size + 1) (j := 0) (u := .slice adb d.1.length cpb) (own_set (b := w.heap.size) (j := 1) (u := .slice ad5 (d.2.length + 1) cp5) o5 (by omega)) (by omega)) (by omega)
          rw [wrVals_snoc] at t2
          have bf := below_set (b := w.heap.size + 1) (j := 1) (u := .slice ad5 (d.2.length + 1) cp5) (below_set (b := w.heap.size + 1) (j := 0) (u := .slice adb d.1.length cpb) (below_set (b := w.heap.size) (j := 1) (u := .slice ad5 (d.2.length + 1) cp5) (hb4.trans (b5.mono (by omega))) (Nat.le_refl _)) (by omega)) (by omega)
          have hr3 := hr2.out
          subst hr3
          refine bodyPost_ret (results_cell_tmp rfl _ _ (w.heap.size + 1) _ _ _ _ rfl l3 Tryd.underlying25 rfl (by kernel_rfl)) rfl ⟨_, rfl, ⟨_, _, rfl, Row.of_own t1, ?_⟩, bf⟩
          show Row _ 2 _ (d.2 ++ [(p, x)]).length _
          rw [List.length_append]
          exact Row.of_own t2
  · have h0' : ((c1 : Int) == 0) = false := by simp; omega
    rw [if_pos h0] at hr
    subst hr
    clear h0 hgd hbc hcc
    go_enter Tryd.func42, Tryd.ntmps42
    go_wp2_with fail
    obtain ⟨k1, k2, hsz, hbl⟩ := alloc2 w (.cells #[.slice ab d.1.length cb, .slice ac d.2.length cc] 25) (.cells #[.slice none 0 0, .slice none 0 0] 25)
    refine (HC.out _ (hD.out.below hbl)).mono ?_
    rintro e w1 ⟨rfl, b1⟩
    have k2' := heap_below k2 b1
    have r0 := cell2_0 k2'
    have r1 := cell2_1 k2'
    have f0 := frozen2 k2' 0
    have f1 := frozen2 k2' 1
    go_wp2
    refine bodyPost_ret (results_cell_tmp rfl _ _ (w.heap.size + 1) _ _ _ _ rfl (set_two k2') Tryd.underlying25 rfl (by kernel_rfl)) rfl ?_
    exact ⟨_, rfl, DiskIs.none _, below_set (below_set (hbl.trans (b1.mono hbl.size)) (by omega)) (by omega)⟩
end Go.Proofs.YthhghggaoljcbaaDoor
