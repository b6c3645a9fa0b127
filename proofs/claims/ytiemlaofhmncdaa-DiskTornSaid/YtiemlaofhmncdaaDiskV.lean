/- The walk of the reference's Crash, chapter 11 (disk). -/
import Derived.Test.YtiemlaofhmncdaaDiskU
import Derived.Test.YtiemlaofhmncdaaDiskN
namespace Go.Proofs.Ytiemlaofhmncdaa
open Go.RowKit Disk11

set_option maxHeartbeats 8000000 in
set_option maxRecDepth 100000 in
theorem RCrash_any (d : Dev) (v : Value) (keep torn : Int) (w : World) (h : DiskIs w d v) :
    Calls Try.prog 31 #[v, .int .i64 keep, .int .i64 torn] w fun e w' => ∃ v', e = .returned (.tuple #[v', .int .i64 (crashD d keep torn).2]) ∧ DiskIs w' (crashD d keep torn).1 v' ∧ Below w.heap.size w w' := by
  have HC := Lib.hid (fun W h => RCheck_any d v W h)
  have HL := Lib.hid (fun W h => bytesR_any d v W h)
  have hD := Lib.hid h
  have hgd : (chk d).1 = 0 → Disk11.Good d := fun h => (chk_good d).1 (chk_ok h)
  obtain ⟨r, hr⟩ : ∃ r, r = crashD d keep torn := ⟨_, rfl⟩
  rw [← hr]
  unfold crashD at hr
  obtain ⟨c, hc⟩ : ∃ c, c = chk d := ⟨_, rfl⟩
  rw [← hc] at hr hgd HC
  clear hc
  obtain ⟨c1, c2⟩ := c
  dsimp only at hr hgd HC
  obtain ⟨ab, cb, ac, cc, rfl, _, _, _, hcc⟩ := h.form
  clear h
  by_cases h0 : c1 = 0
  · subst h0
    have hg := hgd rfl
    clear hgd
    rw [if_neg (by simp)] at hr
    have hl2 := hg.2.2.2.1
    have bad : ∀ w1 W1 (e : Nat), Below w.heap.size w w1 → w1.heap[w.heap.size + 1]? = some (.cells #[.slice none 0 0, .slice none 0 0] 25) → W1 = (w1.setCell ⟨w.heap.size + 1, 0, none⟩ (.slice none 0 0)).setCell ⟨w.heap.size + 1, 1, none⟩ (.slice none 0 0) → r = (none0, e) → ∃ cs, W1.heap[w.heap.size + 1]? = some (.cells cs 25 (0, 0)) ∧ cs.size = 2 ∧ r.2 = e ∧ DiskIs W1 r.1 (.agg cs) ∧ Below w.heap.size w W1 := by
      rintro w1 W1 e hb hk rfl rfl
      exact ⟨_, set_two hk, rfl, rfl, DiskIs.none _, below_set (below_set hb (by omega)) (by omega)⟩
    have hBad := Lib.hid bad
    clear bad
    go_enter Try.func31, Try.ntmps31
    go_wp2_with fail
    obtain ⟨k1, k2, hsz, hbl⟩ := alloc2 w (.cells #[.slice ab d.1.length cb, .slice ac d.2.length cc] 25) (.cells #[.slice none 0 0, .slice none 0 0] 25)
    refine (HC.out _ (hD.out.below hbl)).mono ?_
    rintro e w1 ⟨rfl, b1⟩
    have k1' := heap_below k1 b1
    have k2' := heap_below k2 b1
    have hb1 := hbl.trans (b1.mono hbl.size)
    have c0 := cell2_0 k1'
    have c1 := cell2_1 k1'
    have r0 := cell2_0 k2'
    have r1 := cell2_1 k2'
    have f0 := frozen2 k2' 0
    have f1 := frozen2 k2' 1
    by_cases hkb : keep < 0 ∨ (d.2.length : Int) < keep
    · rw [if_pos hkb] at hr
      by_cases hk : keep < 0
      · have hk' : decide (keep < 0) = true := by simpa using hk
        have hr2 := hr
        clear hr hkb hcc
        go_wp2
        obtain ⟨cs, q1, q2, q3, q4, q5⟩ := hBad.out _ _ _ hb1 k2' rfl hr2
        exact bodyPost_ret (results_cell_tmp rfl _ _ (w.heap.size + 1) _ _ _ _ rfl q1 Try.underlying25 rfl (by rw [q2]; kernel_rfl)) rfl ⟨_, by rw [q3]; rfl, q4, q5⟩
      · have hk' : decide (keep < 0) = false := by simp; omega
        have hk2 : decide ((d.2.length : Int) < keep) = true := by simp; omega
        have hr2 := hr
        clear hr hkb hcc
        go_wp2
        obtain ⟨cs, q1, q2, q3, q4, q5⟩ := hBad.out _ _ _ hb1 k2' rfl hr2
        exact bodyPost_ret (results_cell_tmp rfl _ _ (w.heap.size + 1) _ _ _ _ rfl q1 Try.underlying25 rfl (by rw [q2]; kernel_rfl)) rfl ⟨_, by rw [q3]; rfl, q4, q5⟩
    · rw [if_neg hkb] at hr
      obtain ⟨kn, rfl⟩ : ∃ kn : Nat, keep = (kn : Int) := ⟨keep.toNat, by omega⟩
      have hk' : decide ((kn : Int) < 0) = false := by simp
      have hk2 : decide ((d.2.length : Int) < kn) = false := by simp; omega
      have hkn : kn ≤ d.2.length := by omega
      rw [Int.toNat_natCast] at hr
      clear hkb
      by_cases hlt : kn < d.2.length
      · have hlt' : decide ((kn : Int) < d.2.length) = true := by simp; omega
        obtain ⟨a, hae, q0, q1⟩ := hcc kn hlt
        have hnx : nextD d kn = d.2[kn] := by unfold nextD; rw [List.getElem?_eq_getElem hlt]; rfl
        have hga := good_at hg hlt
        rw [hnx] at hr
        obtain ⟨x, hx⟩ : ∃ x, x = d.2[kn] := ⟨_, rfl⟩
        rw [← hx] at q0 q1 hga hr
        obtain ⟨p, y⟩ := x
        dsimp only at q0 q1 hga hr
        obtain ⟨hp0, hpf⟩ := hga
        obtain ⟨pn, rfl⟩ : ∃ pn : Nat, p = (pn : Int) := ⟨p.toNat, by omega⟩
        rw [Int.toNat_natCast] at hpf hr
        have q0' := cell_below hb1 q0
        have q1' := cell_next (cell_below hb1 q1)
        subst hae
        clear hx hnx
        by_cases ht1 : torn < 0
        · have ht1' : decide (torn < 0) = true := by simpa using ht1
          have hr2 : r = (none0, 2) := by rw [hr, if_pos (.inl ht1)]
          clear hr ht1 hcc
          go_wp2
          obtain ⟨cs, q1, q2, q3, q4, q5⟩ := hBad.out _ _ _ hb1 k2' rfl hr2
          exact bodyPost_ret (results_cell_tmp rfl _ _ (w.heap.size + 1) _ _ _ _ rfl q1 Try.underlying25 rfl (by rw [q2]; kernel_rfl)) rfl ⟨_, by rw [q3]; rfl, q4, q5⟩
        have ht1' : decide (torn < 0) = false := by simp; omega
        by_cases ht2 : (y.length : Int) < torn
        · have ht2' : decide ((y.length : Int) < torn) = true := by simpa using ht2
          have hr2 : r = (none0, 2) := by rw [hr, if_pos (.inr ht2)]
          clear hr ht1 ht2 hcc
          go_wp2
          obtain ⟨cs, q1, q2, q3, q4, q5⟩ := hBad.out _ _ _ hb1 k2' rfl hr2
          exact bodyPost_ret (results_cell_tmp rfl _ _ (w.heap.size + 1) _ _ _ _ rfl q1 Try.underlying25 rfl (by rw [q2]; kernel_rfl)) rfl ⟨_, by rw [q3]; rfl, q4, q5⟩
        obtain ⟨tn, rfl⟩ : ∃ tn : Nat, torn = (tn : Int) := ⟨torn.toNat, by omega⟩
        have ht2' : decide ((y.length : Int) < tn) = false := by simp; omega
        have htn : tn ≤ y.length := by omega
        have hr2 : r = ((chunk (layF (readK d kn) pn (y.take tn)), []), 0) := by rw [hr, if_neg (by omega), Int.toNat_natCast]
        have hHr := Lib.hid hr2
        have hst := str_take y tn htn
        clear hr hr2 ht1 ht2
        go_wp2_with fail
        refine (HL.out w1 (hD.out.below hb1) hg).mono ?_
        rintro e w2 ⟨v2, rfl, o2, b2⟩
        go_wp2
        go_loopw [11, 12] (fun b i wr => ∃ k : Nat, b = v2 ∧ i = .int .i64 k ∧ k ≤ kn ∧ Buf wr w1.heap.size v2 (readK d k) ∧ Below w1.heap.size w1 wr) (fun _ i _ => kn - (intOf i).toNat)
        case atStart => exact ⟨0, rfl, rfl, Nat.zero_le _, by unfold readK; rw [List.take_zero]; exact o2, b2⟩
        case round =>
          obtain ⟨k, hv2, rfl, hk, hown, hblr⟩ := hrel
          subst v2
          have hkw := heap_below k1' hblr
          have hkr := heap_below k2' hblr
          clear c0 c1 r0 r1 f0 f1
          have c0 := cell2_0 hkw
          have c1 := cell2_1 hkw
          have hbw : Below w.heap.size w wr := hb1.trans (hblr.mono hb1.size)
          have hrl := readK_length hg k
          by_cases hltk : k < kn
          · have hltk' : decide ((k : Int) < kn) = true := by simp; omega
            obtain ⟨a', ha', s0, s1⟩ := hcc k (by omega)
            have hga' := good_at hg (k := k) (by omega)
            have hrs := readK_succ (d := d) (k := k) (by omega)
            obtain ⟨x', hx'⟩ : ∃ x', x' = d.2[k]'(by omega) := ⟨_, rfl⟩
            rw [← hx'] at s0 s1 hga' hrs
            obtain ⟨p', y'⟩ := x'
            dsimp only at s0 s1 hga' hrs
            obtain ⟨hp0', hpf'⟩ := hga'
            obtain ⟨pn', rfl⟩ : ∃ pn' : Nat, p' = (pn' : Int) := ⟨p'.toNat, by omega⟩
            rw [Int.toNat_natCast] at hpf' hrs
            have s0' := cell_below hbw s0
            have s1' := cell_next (cell_below hbw s1)
            have hbk : k < d.2.length := by omega
            have HLd := Lib.hid (laidR_any (readK d k) y' pn' _ w1.heap.size wr.drew (Buf.drew hown) (by rw [hrl]; exact hpf') (by rw [hrl]; have := hg.2.1; omega))
            rw [← hrs] at HLd
            cases ha'
            clear hx' hrs s0 s1 hcc
            go_wp2
            go_still_tail 13, (by kernel_rfl)
            change wpList _ _ _ _ _ wr.drew
            go_wp2_with fail
            refine HLd.out.mono ?_
            rintro e w3 ⟨rfl, o3, b3, _⟩
            all_goals go_wp2
            exact ⟨⟨k + 1, rfl, rfl, hltk, o3, hblr.drew.trans b3⟩, by simp [intOf]; omega⟩
          · obtain rfl : k = kn := by omega
            have hltk' : decide ((k : Int) < k) = false := by simp
            have hszw : w.heap.size + 2 ≤ wr.heap.size := by have := b1.size; have := hblr.size; omega
            by_cases ht0 : tn = 0
            · subst ht0
              have ht3 : decide ((0 : Int) < 0) = false := rfl
              rw [List.take_zero, layF_nil] at hHr
              clear hcc
              have HV := Lib.hid (deviceR_any (readK d k) d.1.length hrl hg.2.1 _ _ wr hown)
              go_wp2_with fail
              refine HV.out.mono ?_
              rintro e w5 ⟨v5, rfl, o5, b5⟩
              obtain ⟨ad, cp, rfl⟩ := own_slice o5
              have hb5 := hbw.trans (b5.mono hbw.size)
              have t6 := heap_below (hkr) b5
              have y2 := cell2_0 t6
              have y3 := cell2_1 t6
              have y4 := frozen2 t6 0
              have y5 := frozen2 t6 1
              go_wp2
              have o6 := own_set (b := w.heap.size + 1) (j := 1) (u := .slice none 0 0) (own_set (b := w.heap.size + 1) (j := 0) (u := .slice ad d.1.length cp) o5 (by omega)) (by omega)
              have hr3 := hHr.out
              subst hr3
              refine bodyPost_ret (results_cell_tmp rfl _ _ (w.heap.size + 1) _ _ _ _ rfl (set_two t6) Try.underlying25 rfl (by kernel_rfl)) rfl ⟨_, rfl, ⟨_, _, rfl, ?_, Row.nil _ _⟩, below_set (below_set hb5 (by omega)) (by omega)⟩
              show Row _ 1 _ (chunk (readK d k)).length _
              rw [show (chunk (readK d k)).length = d.1.length by rw [chunk_length, hrl]; omega]
              exact Row.of_own o6
            · have ht3 : decide ((0 : Int) < tn) = true := by simp; omega
              have ht4 : decide (0 < tn) = true := by simp; omega
              have ht5 : 0 < tn := by omega
              have hyt : (y.take tn).length ≤ y.length := by rw [List.length_take]; omega
              have HLd := Lib.hid (laidR_any (readK d k) (y.take tn) pn _ w1.heap.size wr.drew (Buf.drew hown) (by rw [hrl]; omega) (by rw [hrl]; have := hg.2.1; omega))
              have z0' := cell_below (hblr) q0'
              have z1' := cell_below (hblr) q1'
              have hll : (layF (readK d k) pn (y.take tn)).length = 64 * d.1.length := by rw [layF_length (by rw [hrl]; omega), hrl]
              clear hcc ht0 hyt
              go_wp2
              go_still_tail 10, (by kernel_rfl)
              change wpList _ _ _ _ _ wr.drew
              go_wp2_with fail
              refine HLd.out.mono ?_
              rintro e w3 ⟨rfl, o3, b3, _⟩
              have hb3 := (hbw.drew).trans (b3.mono hb1.size)
              have hres3 := (b3.block (w.heap.size + 1) (by have := b1.size; omega)).trans (show wr.drew.heap[w.heap.size + 1]? = _ from hkr)
              have hszw3 : w.heap.size + 2 ≤ w3.heap.size := Nat.le_trans hszw b3.size
              have HV := Lib.hid (deviceR_any (layF (readK d k) pn (y.take tn)) d.1.length hll hg.2.1 _ _ w3 o3)
              go_wp2_with fail
              refine HV.out.mono ?_
              rintro e w5 ⟨v5, rfl, o5, b5⟩
              obtain ⟨ad, cp, rfl⟩ := own_slice o5
              have hb5 := hb3.trans (b5.mono hb3.size)
              have t6 := heap_below (hres3) b5
              have y2 := cell2_0 t6
              have y3 := cell2_1 t6
              have y4 := frozen2 t6 0
              have y5 := frozen2 t6 1
              go_wp2
              have o6 := own_set (b := w.heap.size + 1) (j := 1) (u := .slice none 0 0) (own_set (b := w.heap.size + 1) (j := 0) (u := .slice ad d.1.length cp) o5 (by omega)) (by omega)
              have hr3 := hHr.out
              subst hr3
              refine bodyPost_ret (results_cell_tmp rfl _ _ (w.heap.size + 1) _ _ _ _ rfl (set_two t6) Try.underlying25 rfl (by kernel_rfl)) rfl ⟨_, rfl, ⟨_, _, rfl, ?_, Row.nil _ _⟩, below_set (below_set hb5 (by omega)) (by omega)⟩
              show Row _ 1 _ (chunk (layF (readK d k) pn (y.take tn))).length _
              rw [show (chunk (layF (readK d k) pn (y.take tn))).length = d.1.length by rw [chunk_length, hll]; omega]
              exact Row.of_own o6
      · have hlt' : decide ((kn : Int) < d.2.length) = false := by simp; omega
        have hnx : nextD d kn = (0, []) := by unfold nextD; rw [List.getElem?_eq_none (by omega)]; rfl
        rw [hnx] at hr
        dsimp only at hr
        by_cases ht1 : torn < 0
        · have ht1' : decide (torn < 0) = true := by simpa using ht1
          have hr2 : r = (none0, 2) := by rw [hr, if_pos (.inl ht1)]
          clear hr ht1 hcc
          go_wp2
          obtain ⟨cs, q1, q2, q3, q4, q5⟩ := hBad.out _ _ _ hb1 k2' rfl hr2
          exact bodyPost_ret (results_cell_tmp rfl _ _ (w.heap.size + 1) _ _ _ _ rfl q1 Try.underlying25 rfl (by rw [q2]; kernel_rfl)) rfl ⟨_, by rw [q3]; rfl, q4, q5⟩
        have ht1' : decide (torn < 0) = false := by simp; omega
        by_cases ht2 : (0 : Int) < torn
        · have ht2' : decide ((0 : Int) < torn) = true := by simpa using ht2
          have hr2 : r = (none0, 2) := by rw [hr, if_pos (.inr ht2)]
          clear hr ht1 ht2 hcc
          go_wp2
          obtain ⟨cs, q1, q2, q3, q4, q5⟩ := hBad.out _ _ _ hb1 k2' rfl hr2
          exact bodyPost_ret (results_cell_tmp rfl _ _ (w.heap.size + 1) _ _ _ _ rfl q1 Try.underlying25 rfl (by rw [q2]; kernel_rfl)) rfl ⟨_, by rw [q3]; rfl, q4, q5⟩
        obtain ⟨tn, rfl⟩ : ∃ tn : Nat, torn = (tn : Int) := ⟨torn.toNat, by omega⟩
        obtain rfl : tn = 0 := by omega
        have hr2 : r = ((chunk (readK d kn), []), 0) := by rw [hr, if_neg (by simp)]; show ((chunk (layF (readK d kn) 0 []), _), _) = _; rw [layF_nil]
        have hHr := Lib.hid hr2
        clear hr hr2 ht1 ht2
        go_wp2_with fail
        refine (HL.out w1 (hD.out.below hb1) hg).mono ?_
        rintro e w2 ⟨v2, rfl, o2, b2⟩
        go_wp2
        go_loopw [11, 12] (fun b i wr => ∃ k : Nat, b = v2 ∧ i = .int .i64 k ∧ k ≤ kn ∧ Buf wr w1.heap.size v2 (readK d k) ∧ Below w1.heap.size w1 wr) (fun _ i _ => kn - (intOf i).toNat)
        case atStart => exact ⟨0, rfl, rfl, Nat.zero_le _, by unfold readK; rw [List.take_zero]; exact o2, b2⟩
        case round =>
          obtain ⟨k, hv2, rfl, hk, hown, hblr⟩ := hrel
          subst v2
          have hkw := heap_below k1' hblr
          have hkr := heap_below k2' hblr
          clear c0 c1 r0 r1 f0 f1
          have c0 := cell2_0 hkw
          have c1 := cell2_1 hkw
          have hbw : Below w.heap.size w wr := hb1.trans (hblr.mono hb1.size)
          have hrl := readK_length hg k
          by_cases hltk : k < kn
          · have hltk' : decide ((k : Int) < kn) = true := by simp; omega
            obtain ⟨a', ha', s0, s1⟩ := hcc k (by omega)
            have hga' := good_at hg (k := k) (by omega)
            have hrs := readK_succ (d := d) (k := k) (by omega)
            obtain ⟨x', hx'⟩ : ∃ x', x' = d.2[k]'(by omega) := ⟨_, rfl⟩
            rw [← hx'] at s0 s1 hga' hrs
            obtain ⟨p', y'⟩ := x'
            dsimp only at s0 s1 hga' hrs
            obtain ⟨hp0', hpf'⟩ := hga'
            obtain ⟨pn', rfl⟩ : ∃ pn' : Nat, p' = (pn' : Int) := ⟨p'.toNat, by omega⟩
            rw [Int.toNat_natCast] at hpf' hrs
            have s0' := cell_below hbw s0
            have s1' := cell_next (cell_below hbw s1)
            have hbk : k < d.2.length := by omega
            have HLd := Lib.hid (laidR_any (readK d k) y' pn' _ w1.heap.size wr.drew (Buf.drew hown) (by rw [hrl]; exact hpf') (by rw [hrl]; have := hg.2.1; omega))
            rw [← hrs] at HLd
            cases ha'
            clear hx' hrs s0 s1 hcc
            go_wp2
            go_still_tail 13, (by kernel_rfl)
            change wpList _ _ _ _ _ wr.drew
            go_wp2_with fail
            refine HLd.out.mono ?_
            rintro e w3 ⟨rfl, o3, b3, _⟩
            all_goals go_wp2
            exact ⟨⟨k + 1, rfl, rfl, hltk, o3, hblr.drew.trans b3⟩, by simp [intOf]; omega⟩
          · obtain rfl : k = kn := by omega
            have hltk' : decide ((k : Int) < k) = false := by simp
            have hszw : w.heap.size + 2 ≤ wr.heap.size := by have := b1.size; have := hblr.size; omega
            clear hcc
            have HV := Lib.hid (deviceR_any (readK d k) d.1.length hrl hg.2.1 _ _ wr hown)
            go_wp2_with fail
            refine HV.out.mono ?_
            rintro e w5 ⟨v5, rfl, o5, b5⟩
            obtain ⟨ad, cp, rfl⟩ := own_slice o5
            have hb5 := hbw.trans (b5.mono hbw.size)
            have t6 := heap_below (hkr) b5
            have y2 := cell2_0 t6
            have y3 := cell2_1 t6
            have y4 := frozen2 t6 0
            have y5 := frozen2 t6 1
            go_wp2
            have o6 := own_set (b := w.heap.size + 1) (j := 1) (u := .slice none 0 0) (own_set (b := w.heap.size + 1) (j := 0) (u := .slice ad d.1.length cp) o5 (by omega)) (by omega)
            have hr3 := hHr.out
            subst hr3
            refine bodyPost_ret (results_cell_tmp rfl _ _ (w.heap.size + 1) _ _ _ _ rfl (set_two t6) Try.underlying25 rfl (by kernel_rfl)) rfl ⟨_, rfl, ⟨_, _, rfl, ?_, Row.nil _ _⟩, below_set (below_set hb5 (by omega)) (by omega)⟩
            show Row _ 1 _ (chunk (readK d k)).length _
            rw [show (chunk (readK d k)).length = d.1.length by rw [chunk_length, hrl]; omega]
            exact Row.of_own o6
  · clear HL
    have h0' : ((c1 : Int) == 0) = false := by simp; omega
    rw [if_pos h0] at hr
    subst hr
    clear h0 hgd
    go_enter Try.func31, Try.ntmps31
    go_wp2_with fail
    obtain ⟨k1, k2, hsz, hbl⟩ := alloc2 w (.cells #[.slice ab d.1.length cb, .slice ac d.2.length cc] 25) (.cells #[.slice none 0 0, .slice none 0 0] 25)
    refine (HC.out _ (hD.out.below hbl)).mono ?_
    rintro e w1 ⟨rfl, b1⟩
    have k2' := heap_below k2 b1
    have r0 := cell2_0 k2'
    have r1 := cell2_1 k2'
    have f0 := frozen2 k2' 0
    have f1 := frozen2 k2' 1
    go_wp2
    refine bodyPost_ret (results_cell_tmp rfl _ _ (w.heap.size + 1) _ _ _ _ rfl (set_two k2') Try.underlying25 rfl (by kernel_rfl)) rfl ?_
    exact ⟨_, rfl, DiskIs.none _, below_set (below_set (hbl.trans (b1.mono hbl.size)) (by omega)) (by omega)⟩
end Go.Proofs.Ytiemlaofhmncdaa
