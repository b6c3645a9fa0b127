/- The walk of Append, chapter 12 (journal). -/
import Derived.Test.YtmfbkelhegdmpaaGreatDoorJournalE
import Derived.Test.YtmfbkelhegdmpaaGreatDoorJournalFH
import Derived.Test.YtmfbkelhegdmpaaGreatDoorDiskAW
namespace Go.Proofs.YtmfbkelhegdmpaaGreatDoor
open Go.RowKit Disk11 Journal12 Sum2

theorem append_cases (d : Dev) (f b p : Int) (x : List UInt8) :
    (placedJ d (f, b) p ≠ 0 ∧ appendJ d (f, b) p x = (none0, 0, placedJ d (f, b) p)) ∨
    (placedJ d (f, b) p = 0 ∧ (sizeF x).2 ≠ 0 ∧ appendJ d (f, b) p x = (none0, 0, (sizeF x).2)) ∨
    (placedJ d (f, b) p = 0 ∧ sizeF x = (x.length + 10, 0) ∧ 1 ≤ x.length ∧ x.length ≤ 60000 ∧ 64 * b - p < x.length + 10 ∧ appendJ d (f, b) p x = (none0, 0, 5)) ∨
    (placedJ d (f, b) p = 0 ∧ sizeF x = (x.length + 10, 0) ∧ 1 ≤ x.length ∧ x.length ≤ 60000 ∧ ¬ 64 * b - p < x.length + 10 ∧ blankJ (((regJ d (f, b)).drop p.toNat).take (x.length + 10)) = false ∧ appendJ d (f, b) p x = (none0, 0, 12)) ∨
    (placedJ d (f, b) p = 0 ∧ sizeF x = (x.length + 10, 0) ∧ 1 ≤ x.length ∧ x.length ≤ 60000 ∧ ¬ 64 * b - p < x.length + 10 ∧ blankJ (((regJ d (f, b)).drop p.toNat).take (x.length + 10)) = true ∧ appendJ d (f, b) p x = if (writeD d (64 * f + p) (formJ x)).2 ≠ 0 then (none0, 0, (writeD d (64 * f + p) (formJ x)).2) else ((writeD d (64 * f + p) (formJ x)).1, p + (x.length + 10), 0)) := by
  by_cases h : placedJ d (f, b) p = 0
  · by_cases h2 : (sizeF x).2 = 0
    · have h3 : sizeF x = (x.length + 10, 0) ∧ 1 ≤ x.length ∧ x.length ≤ 60000 := by
        unfold sizeF at h2 ⊢
        by_cases e : x = []
        · rw [if_pos e] at h2; simp at h2
        · rw [if_neg e] at h2 ⊢
          have : 1 ≤ x.length := by cases x <;> simp_all
          by_cases e2 : 60000 < x.length
          · rw [if_pos e2] at h2; simp at h2
          · rw [if_neg e2]; exact ⟨rfl, this, by omega⟩
      obtain ⟨h3, h5, h6⟩ := h3
      by_cases h4 : 64 * b - p < x.length + 10
      · exact .inr (.inr (.inl ⟨h, h3, h5, h6, h4, by unfold appendJ; rw [h, if_neg (by simp), h2, if_neg (by simp), if_pos h4]⟩))
      · cases hb : blankJ (((regJ d (f, b)).drop p.toNat).take (x.length + 10)) with
        | false => exact .inr (.inr (.inr (.inl ⟨h, h3, h5, h6, h4, rfl, by unfold appendJ; rw [h, if_neg (by simp), h2, if_neg (by simp), if_neg h4, hb, if_pos rfl]⟩)))
        | true => exact .inr (.inr (.inr (.inr ⟨h, h3, h5, h6, h4, rfl, by unfold appendJ; rw [h, if_neg (by simp), h2, if_neg (by simp), if_neg h4, hb, if_neg (by simp)]⟩)))
    · exact .inr (.inl ⟨h, h2, by unfold appendJ; rw [h, if_neg (by simp), if_pos h2]⟩)
  · exact .inl ⟨h, by unfold appendJ; rw [if_pos h]⟩
theorem results_cell_tmp2 {fn : Func} {P : Program} {p u u2 : Tmp} {ty : TypeId} (h : fn.results = #[.cell p ty, .tmp u, .tmp u2]) (tmps : Array Value) (w : World) (g : Nat) (t : TypeId) (cs : Array Value) (fr : Nat × Nat) (d : TypeDesc)
    (hp : tmps.getD p undef = .pointer (some ⟨g, 0, none⟩)) (hg : w.heap[g]? = some (.cells cs t fr))
    (hu : P.underlying ty = some d) (hd : (match d with | .struct _ | .array _ _ => true | _ => false) = true) (hi : (P.info? ty).map (·.size) = some cs.size) :
    (results fn tmps).run P w = .ok (.tuple #[.agg cs, tmps.getD u undef, tmps.getD u2 undef]) w := by
  have hp' : tmps[p]?.getD undef = .pointer (some ⟨g, 0, none⟩) := by simpa using hp
  simp [results, h, hp', asAddr, Result.andThen, run_loadVar_row w g t ty cs fr d hg hu hd hi]
/-- What Append's post says. -/
def AppPost (w : World) (r : Dev × Int × Nat) (e : Ending) (w' : World) : Prop := ∃ v', e = .returned (.tuple #[v', .int .i64 r.2.1, .int .i64 (r.2.2 : Nat)]) ∧ DiskIs w' r.1 v' ∧ Below w.heap.size w w'

set_option maxHeartbeats 8000000 in
set_option maxRecDepth 100000 in
theorem JAppend_any (d : Dev) (v : Value) (f b p : Int) (x : List UInt8) (w : World) (h : DiskIs w d v) (ht : Tab w) (hx : x.length ≤ 4611686018427387904) :
    Calls Tryz.prog 66 #[v, .agg #[.int .i64 f, .int .i64 b], .int .i64 p, .string ⟨x.toArray⟩] w (AppPost w (appendJ d (f, b) p x)) := by
  have HC := Lib.hid (fun W h => placed_any d v f b p W h)
  have HZ := Lib.hid (fun W => Size_any x W hx)
  have hD := Lib.hid h
  have hT := Lib.hid ht
  have hcs := append_cases d f b p x
  have hrg : placedJ d (f, b) p = 0 → Disk11.Good d ∧ ∃ f' b' q : Nat, f = (f' : Int) ∧ b = (b' : Int) ∧ p = (q : Int) ∧ f' + b' ≤ d.1.length ∧ q ≤ 64 * b' := fun h => by
    obtain ⟨hg, f', b', q, e1, rfl, hb, hf, hq⟩ := placedJ_ok h
    simp only [Prod.mk.injEq] at e1
    exact ⟨hg, f', b', q, e1.1, e1.2, rfl, hf, hq⟩
  obtain ⟨r, hr⟩ : ∃ r, r = appendJ d (f, b) p x := ⟨_, rfl⟩
  rw [← hr] at hcs ⊢
  obtain ⟨pl, hpl⟩ : ∃ pl, pl = placedJ d (f, b) p := ⟨_, rfl⟩
  rw [← hpl] at hcs hrg HC
  clear hr hpl ht
  obtain ⟨ab, cb, ac, cc, rfl, _, _, hbc, _⟩ := h.form
  clear h hbc hx
  obtain ⟨k1, k2, k3x, _, hbl⟩ := alloc3 w (.cells #[.slice ab d.1.length cb, .slice ac d.2.length cc] 29) (.cells #[.int .i64 f, .int .i64 b] 65) (.cells #[.slice none 0 0, .slice none 0 0] 29)
  have k3 := show _[w.heap.size + 1 + 1]? = _ from k3x
  clear k3x
  have bad : ∀ w1 W1 (e : Nat), Below w.heap.size w w1 → w1.heap[w.heap.size + 1 + 1]? = some (.cells #[.slice none 0 0, .slice none 0 0] 29) → W1 = (w1.setCell ⟨w.heap.size + 1 + 1, 0, none⟩ (.slice none 0 0)).setCell ⟨w.heap.size + 1 + 1, 1, none⟩ (.slice none 0 0) → r = (none0, 0, e) → ∃ cs, W1.heap[w.heap.size + 1 + 1]? = some (.cells cs 29 (0, 0)) ∧ cs.size = 2 ∧ AppPost w r (.returned (.tuple #[.agg cs, .int .i64 0, .int .i64 (e : Nat)])) W1 := by
    rintro w1 W1 e hb hk rfl rfl
    exact ⟨_, set_two hk, rfl, _, rfl, DiskIs.none _, below_set (below_set hb (by omega)) (by omega)⟩
  have hBad := Lib.hid bad
  clear bad
  go_enter Tryz.func66, Tryz.ntmps66
  go_wp2_with fail
  refine (HC.out _ (hD.out.below hbl)).mono ?_
  rintro e w1 ⟨rfl, b1⟩
  have k1' := heap_below k1 b1
  have k2' := heap_below k2 b1
  have k3' := heap_below k3 b1
  have hb1 := hbl.trans (b1.mono hbl.size)
  have c0 := cell2_0 k1'
  have c1 := cell2_1 k1'
  have r0 := cell2_0 k2'
  have r1 := cell2_1 k2'
  have z0 := cell2_0 k3'
  have z1 := cell2_1 k3'
  have f0 := frozen2 k3' 0
  have f1 := frozen2 k3' 1
  clear k1 k2 k3 hbl b1
  rcases hcs with ⟨h1, hr⟩ | ⟨h1, h2, hr⟩ | ⟨h1, h2, h3, h4, h5, hr⟩ | ⟨h1, h2, h3, h4, h5, h6, hr⟩ | ⟨h1, h2, h3, h4, h5, h6, hr⟩
  · have h0' : ((pl : Int) == 0) = false := by simp; exact h1
    clear h1 hrg
    go_wp2
    obtain ⟨cs, q1, q2, q3⟩ := hBad.out _ _ _ hb1 k3' rfl hr
    refine bodyPost_ret (results_cell_tmp2 rfl _ _ (w.heap.size + 1 + 1) _ _ _ _ rfl q1 Tryz.underlying29 rfl (by rw [q2]; kernel_rfl)) rfl ?_
    exact q3
  all_goals subst h1
  · obtain ⟨s, hs⟩ : ∃ s, s = sizeF x := ⟨_, rfl⟩
    rw [← hs] at HZ h2 hr
    obtain ⟨s1, s2⟩ := s
    dsimp only at HZ h2 hr
    have h0' : ((s2 : Int) == 0) = false := by simp; exact h2
    clear hs h2 hrg
    go_wp2_with fail
    refine (HZ.out _).mono ?_
    rintro e w2 ⟨rfl, rfl⟩
    go_wp2
    obtain ⟨cs, q1, q2, q3⟩ := hBad.out _ _ _ hb1 k3' rfl hr
    refine bodyPost_ret (results_cell_tmp2 rfl _ _ (w.heap.size + 1 + 1) _ _ _ _ rfl q1 Tryz.underlying29 rfl (by rw [q2]; kernel_rfl)) rfl ?_
    exact q3
  all_goals
    obtain ⟨hg, f', b', q, rfl, rfl, rfl, hf, hq⟩ := hrg rfl
    have hdl := hg.2.1
    rw [h2] at HZ
    dsimp only at HZ
    have HL := Lib.hid (fun W => length_any (f' : Int) (b' : Int) W (by omega) (by omega))
    have hrh := Lib.hid hr
    clear hrg h2 hr
  · have h5' : decide (64 * (b' : Int) - (q : Int) < (x.length : Int) + 10) = true := by simp; omega
    clear h5
    go_wp2_with fail
    refine (HZ.out _).mono ?_
    rintro e w2 ⟨rfl, rfl⟩
    go_wp2_with fail
    refine (HL.out _).mono ?_
    rintro e w3 ⟨rfl, b3⟩
    have k3 := heap_below k3' b3
    have hb3 := hb1.trans (b3.mono hb1.size)
    have z0 := cell2_0 k3
    have z1 := cell2_1 k3
    have f0 := frozen2 k3 0
    have f1 := frozen2 k3 1
    go_wp2
    obtain ⟨cs, q1, q2, q3⟩ := hBad.out _ _ _ hb3 k3 rfl hrh.out
    refine bodyPost_ret (results_cell_tmp2 rfl _ _ (w.heap.size + 1 + 1) _ _ _ _ rfl q1 Tryz.underlying29 rfl (by rw [q2]; kernel_rfl)) rfl ?_
    exact q3
  all_goals
    have h5' : decide (64 * (b' : Int) - (q : Int) < (x.length : Int) + 10) = false := by simp; omega
    have hqx : q + (x.length + 10) ≤ 64 * b' := by omega
    have hrl := regJ_length hg hf
    have HR := Lib.hid (fun W h => region_any d (.agg #[.slice ab d.1.length cb, .slice ac d.2.length cc]) f' b' W h hg hf)
    rw [Int.toNat_natCast] at h6
    obtain ⟨R, hR⟩ : ∃ R, R = regJ d ((f' : Int), (b' : Int)) := ⟨_, rfl⟩
    rw [← hR] at HR hrl h6
    have hRb : R.length ≤ 262144 := by omega
    obtain ⟨Y, hY⟩ : ∃ Y, Y = (R.drop q).take (x.length + 10) := ⟨_, rfl⟩
    rw [← hY] at h6
    have hYl : Y.length ≤ 262144 := by rw [hY, List.length_take, List.length_drop]; omega
    have hsl : ∀ W, (Instr.slice 9 (.string ⟨R.toArray⟩) (some (.int .i64 (q : Int))) (some (.int .i64 ((q : Int) + ((x.length : Int) + 10)))) none).run Tryz.prog W = .ok (.string ⟨Y.toArray⟩) W := fun W => by
      have := sub_mid R q (q + (x.length + 10)) (by omega) (by omega) W
      rw [show q + (x.length + 10) - q = x.length + 10 by omega, ← hY] at this
      have e : (q : Int) + ((x.length : Int) + 10) = ((q + (x.length + 10) : Nat) : Int) := by omega
      rw [e]
      exact this
    have HT := Lib.hid (fun W => trim_any Y W (by omega))
    have hte := trim_empty Y
    rw [h6] at hte
    obtain ⟨T, hT'⟩ : ∃ T, T = Lib.trimB Y 0 := ⟨_, rfl⟩
    rw [← hT'] at HT hte
    have hqb : q ≤ 262144 := by omega
    clear h5 h6 hR hY hT'
    go_wp2_with fail
    refine (HZ.out _).mono ?_
    rintro e w2 ⟨rfl, rfl⟩
    go_wp2_with fail
    refine (HL.out _).mono ?_
    rintro e w3 ⟨rfl, b3⟩
    have k13 := heap_below k1' b3
    have k23 := heap_below k2' b3
    have k33 := heap_below k3' b3
    have hb3 := hb1.trans (b3.mono hb1.size)
    clear c0 c1 r0 r1 z0 z1 f0 f1 k1' k2' k3' hb1
    have c0 := cell2_0 k13
    have c1 := cell2_1 k13
    have r0 := cell2_0 k23
    have r1 := cell2_1 k23
    go_wp2_with fail
    refine (HR.out _ (hD.out.below hb3)).mono ?_
    rintro e w4 ⟨rfl, b4⟩
    have hb4 := hb3.trans (b4.mono hb3.size)
    have k14 := heap_below k13 b4
    have k24 := heap_below k23 b4
    have k34 := heap_below k33 b4
    clear c0 c1 r0 r1 b3 b4 k13 k23 k33 hb3
    go_wp2_with fail
    refine (HT.out _).mono ?_
    rintro e w5 ⟨rfl, b5⟩
    have hb5 := hb4.trans (b5.mono hb4.size)
    have k15 := heap_below k14 b5
    have k25 := heap_below k24 b5
    have k35 := heap_below k34 b5
    clear b5 k14 k24 k34 hb4 hsl
  · have z0 := cell2_0 k35
    have z1 := cell2_1 k35
    have f0 := frozen2 k35 0
    have f1 := frozen2 k35 1
    go_wp2
    obtain ⟨cs, q1, q2, q3⟩ := hBad.out _ _ _ hb5 k35 rfl hrh.out
    refine bodyPost_ret (results_cell_tmp2 rfl _ _ (w.heap.size + 1 + 1) _ _ _ _ rfl q1 Tryz.underlying29 rfl (by rw [q2]; kernel_rfl)) rfl ?_
    exact q3
  · have HF := Lib.hid (fun W h => form_any x h4 W h)
    have e1 : 64 * (f' : Int) + (q : Int) = ((64 * f' + q : Nat) : Int) := by omega
    have HW := Lib.hid (fun v W h => (Write_any d v (64 * (f' : Int) + (q : Int)) (formJ x) W h).mono (fun _ _ => as_diskN))
    obtain ⟨u, hu⟩ : ∃ u, u = writeD d (64 * (f' : Int) + (q : Int)) (formJ x) := ⟨_, rfl⟩
    have hr := hrh.out
    rw [← hu] at HW hr
    obtain ⟨ud, uk⟩ := u
    dsimp only at HW hr
    obtain ⟨F, hF⟩ : ∃ F, F = formJ x := ⟨_, rfl⟩
    rw [← hF] at HW HF
    have hr' := Lib.hid hr
    clear hu hF hr hrh e1
    have ht5 : Tab w5 := hT.out.below hb5
    have hd5 := hD.out.below hb5
    have hw5 : w.heap.size + 1 + 1 < w5.heap.size := (Array.getElem?_eq_some_iff.1 k35).1
    have wr1 : IntKind.i64.wrap (64 * (f' : Int)) = 64 * (f' : Int) := by rw [IntKind.wrap_i64]; omega
    have wr2 : IntKind.i64.wrap (64 * (f' : Int) + (q : Int)) = 64 * (f' : Int) + (q : Int) := by rw [IntKind.wrap_i64]; omega
    go_upto_region 11 with (fail)
    go_cut [13, 14] from 53 to 64 (fun u v W => ∃ (g nb3 nc3 cb3 cc3 : Nat) (ab3 ac3 : Option Addr), u = .int .i64 (uk : Int) ∧ v = .pointer (some ⟨g, 0, none⟩) ∧ W.heap[g]? = some (.cells #[.slice ab3 nb3 cb3, .slice ac3 nc3 cc3] 29 (0, 0)) ∧ DiskIs W ud (.agg #[.slice ab3 nb3 cb3, .slice ac3 nc3 cc3]) ∧ Below w5.heap.size w5 W)
    case first =>
      have c0 := cell2_0 k15
      have c1 := cell2_1 k15
      have r0 := cell2_0 k25
      have al := Go.Joins.below_alloc1 w5 (.cells #[.slice none 0 0, .slice none 0 0] 29)
      have z0 := cell_below al c0
      have z1 := cell_below al c1
      have z2 := cell_below al r0
      have tA : Tab (World.alloc w5 (.cells #[.slice none 0 0, .slice none 0 0] 29)) := ht5.below al
      have TA := Lib.hid (show Tab (World.alloc w5 (.cells #[.slice none 0 0, .slice none 0 0] 29)).drew from tA)
      clear tA
      have TB := Lib.hid (show Tab w5.drew from ht5)
      have dA := Lib.hid (hd5.below al).drew
      have dB := Lib.hid hd5.drew
      have hal := Lib.hid al
      have hnew := Lib.hid (World.alloc_heap_new w5 (.cells #[.slice none 0 0, .slice none 0 0] 29))
      clear al k15 k25 k35 ht5 hd5 hb5
      go_region_held3 (fun V => V.cell? ⟨w.heap.size, 0, none⟩ = some (.slice ab d.1.length cb) ∧ V.cell? ⟨w.heap.size, 1, none⟩ = some (.slice ac d.2.length cc) ∧ V.cell? ⟨w.heap.size + 1, 0, none⟩ = some (.int .i64 (f' : Int)))
        (first | exact ⟨c0, c1, r0⟩ | exact ⟨z0, z1, z2⟩ | exact ⟨o0, o1, o2⟩ | exact ⟨y0, y1, y2⟩ | exact ⟨p0, p1, p2⟩ | exact ⟨q0, q1, q2⟩ | exact ⟨cell_below (Go.Joins.below_alloc1 _ _) o0, cell_below (Go.Joins.below_alloc1 _ _) o1, cell_below (Go.Joins.below_alloc1 _ _) o2⟩ | exact ⟨cell_below (Go.Joins.below_alloc1 _ _) p0, cell_below (Go.Joins.below_alloc1 _ _) p1, cell_below (Go.Joins.below_alloc1 _ _) p2⟩ | go_keep)
        (first
          | (go_at_call 110; refine (HF.out _ TA.out).mono ?_; rintro e w6 ⟨rfl, b6⟩
             have o0 := cell_below b6 (show (World.alloc w5 _).drew.cell? _ = _ from z0); have o1 := cell_below b6 (show (World.alloc w5 _).drew.cell? _ = _ from z1); have o2 := cell_below b6 (show (World.alloc w5 _).drew.cell? _ = _ from z2)
             have D6 := Lib.hid (dA.out.below b6)
             have B6 := Lib.hid ((hal.out).trans ((show Below (World.alloc w5 _).heap.size (World.alloc w5 _) w6 from (Below.refl _ _).drew.trans b6).mono hal.out.size))
             have n6 := heap_below (show (World.alloc w5 _).drew.heap[w5.heap.size]? = _ from hnew.out) b6)
          | (go_at_call 110; refine (HF.out _ TB.out).mono ?_; rintro e w6 ⟨rfl, b6⟩
             have o0 := cell_below b6 (show w5.drew.cell? _ = _ from c0); have o1 := cell_below b6 (show w5.drew.cell? _ = _ from c1); have o2 := cell_below b6 (show w5.drew.cell? _ = _ from r0)
             have D6 := Lib.hid (dB.out.below b6)
             have B6 := Lib.hid ((Below.refl _ w5).drew.trans b6))
          | (go_at_call 39; refine (HW.out _ _ (by first | exact D6.out | exact D6.out.below (Go.Joins.below_alloc1 _ _))).mono ?_; rintro e w7 ⟨ab3, nb3, cb3, ac3, nc3, cc3, rfl, xd3, b7⟩
             first
             | (have p0 := cell_below b7 o0; have p1 := cell_below b7 o1; have p2 := cell_below b7 o2
                have B7 := Lib.hid (B6.out.trans (b7.mono B6.out.size))
                try (have n7 := heap_below n6 b7; have m0 := cell2_0 n7; have m1 := cell2_1 n7; have m4 := frozen2 n7 0; have m5 := frozen2 n7 1; have q0 := cell_far2 (g := w5.heap.size) (j := 0) (j' := 1) (u := .slice ab3 nb3 cb3) (u' := .slice ac3 nc3 cc3) p0 (by show w.heap.size ≠ _; omega); have q1 := cell_far2 (g := w5.heap.size) (j := 0) (j' := 1) (u := .slice ab3 nb3 cb3) (u' := .slice ac3 nc3 cc3) p1 (by show w.heap.size ≠ _; omega); have q2 := cell_far2 (g := w5.heap.size) (j := 0) (j' := 1) (u := .slice ab3 nb3 cb3) (u' := .slice ac3 nc3 cc3) p2 (by show w.heap.size + 1 ≠ _; omega)))
             | (have a6 := Go.Joins.below_alloc1 w6 (.cells #[.slice none 0 0, .slice none 0 0] 29)
                have ab7 := a6.trans (b7.mono a6.size)
                have p0 := cell_below ab7 o0; have p1 := cell_below ab7 o1; have p2 := cell_below ab7 o2
                have B7 := Lib.hid (B6.out.trans (ab7.mono B6.out.size))
                have hl6 := B6.out.size
                have n7 := heap_below (World.alloc_heap_new w6 (.cells #[.slice none 0 0, .slice none 0 0] 29)) b7; have m0 := cell2_0 n7; have m1 := cell2_1 n7; have m4 := frozen2 n7 0; have m5 := frozen2 n7 1
                have q0 := cell_far2 (g := w6.heap.size) (j := 0) (j' := 1) (u := .slice ab3 nb3 cb3) (u' := .slice ac3 nc3 cc3) p0 (by show w.heap.size ≠ _; omega); have q1 := cell_far2 (g := w6.heap.size) (j := 0) (j' := 1) (u := .slice ab3 nb3 cb3) (u' := .slice ac3 nc3 cc3) p1 (by show w.heap.size ≠ _; omega); have q2 := cell_far2 (g := w6.heap.size) (j := 0) (j' := 1) (u := .slice ab3 nb3 cb3) (u' := .slice ac3 nc3 cc3) p2 (by show w.heap.size + 1 ≠ _; omega))))
      all_goals
        go_wp2_with fail
        go_meet
        first
          | exact ⟨_, _, _, _, _, _, _, rfl, rfl, World.alloc_heap_new w7 _, xd3.alloc _, B7.out.alloc B7.out.size _⟩
          | exact ⟨_, _, _, _, _, _, _, rfl, rfl, set_two n7, disk_apart (disk_apart xd3 n7) (Lib.heap_setCell_same (i := 0) n7 _), below_set (below_set B7.out (Nat.le_refl _)) (Nat.le_refl _)⟩
          | exact ⟨_, _, _, _, _, _, _, rfl, rfl, set_two n7, disk_apart (disk_apart xd3 n7) (Lib.heap_setCell_same (i := 0) n7 _), below_set (below_set B7.out hl6) hl6⟩
    case rest =>
      obtain ⟨g, nb3, nc3, cb3, cc3, ab3, ac3, rfl, rfl, g3, xd3, hb3⟩ := hcut
      have k36 := heap_below k35 hb3
      have hb6 := hb5.trans (hb3.mono hb5.size)
      have z0 := cell2_0 k36
      have z1 := cell2_1 k36
      have f0 := frozen2 k36 0
      have f1 := frozen2 k36 1
      have y0 := cell2_0 g3
      have y1 := cell2_1 g3
      have hr := Lib.hid hr'.out
      clear hr' k15 k25 k35 hb5 ht5 hd5 hb3
      by_cases hu : uk = 0
      · subst hu
        have hr2 := hr.out
        rw [if_neg (by simp)] at hr2
        have hP : AppPost w r (.returned (.tuple #[.agg #[.slice ab3 nb3 cb3, .slice ac3 nc3 cc3], .int .i64 ((q : Int) + ((x.length : Int) + 10)), .int .i64 0])) ((wc.setCell ⟨w.heap.size + 1 + 1, 0, none⟩ (.slice ab3 nb3 cb3)).setCell ⟨w.heap.size + 1 + 1, 1, none⟩ (.slice ac3 nc3 cc3)) := by
          rw [hr2]
          exact ⟨_, rfl, disk_apart (disk_apart xd3 k36) (Lib.heap_setCell_same (i := 0) k36 _), below_set (below_set hb6 (by omega)) (by omega)⟩
        have hP' := Lib.hid hP
        have hq' : q ≤ 262144 := hqb
        clear hr2 hr hP
        go_wp2
        refine bodyPost_ret (results_cell_tmp2 rfl _ _ (w.heap.size + 1 + 1) _ _ _ _ rfl (set_two k36) Tryz.underlying29 rfl (by kernel_rfl)) rfl ?_
        exact hP'.out
      · have h0' : ((uk : Int) == 0) = false := by simp; exact hu
        have hr2 := hr.out
        rw [if_pos hu] at hr2
        have hr3 := Lib.hid hr2
        clear hr2 hr hu
        go_wp2
        obtain ⟨cs, q1, q2, q3⟩ := hBad.out _ _ _ hb6 k36 rfl hr3.out
        refine bodyPost_ret (results_cell_tmp2 rfl _ _ (w.heap.size + 1 + 1) _ _ _ _ rfl q1 Tryz.underlying29 rfl (by rw [q2]; kernel_rfl)) rfl ?_
        exact q3
end Go.Proofs.YtmfbkelhegdmpaaGreatDoor
