/- The walk of the reference's Append, chapter 12 (journal). -/
import Derived.Test.YtmfbkelhegdmpaaGreatDoorJournalM
import Derived.Test.YtmfbkelhegdmpaaGreatDoorJournalIN
import Derived.Test.YtmfbkelhegdmpaaGreatDoorDiskMU
namespace Go.Proofs.YtmfbkelhegdmpaaGreatDoor
open Go.RowKit Disk11 Journal12 Sum2

set_option maxHeartbeats 8000000 in
set_option maxRecDepth 100000 in
theorem RJAppend_any (d : Dev) (v : Value) (f b p : Int) (x : List UInt8) (w : World) (h : DiskIs w d v) (hx : x.length ≤ 4611686018427387904) :
    Calls Tryz.prog 68 #[v, .agg #[.int .i64 f, .int .i64 b], .int .i64 p, .string ⟨x.toArray⟩] w (AppPost w (appendJ d (f, b) p x)) := by
  have HC := Lib.hid (fun W h => Rplaced_any d v f b p W h)
  have HZ := Lib.hid (fun W => RSize_any x W hx)
  have hD := Lib.hid h
  have hcs := append_cases d f b p x
  have hrg : placedJ d (f, b) p = 0 → Disk11.Good d ∧ ∃ f' b' q : Nat, f = (f' : Int) ∧ b = (b' : Int) ∧ p = (q : Int) ∧ f' + b' ≤ d.1.length ∧ q ≤ 64 * b' := fun h => by
    obtain ⟨hg, f', b', q, e1, rfl, hb, hf, hq⟩ := placedJ_ok h
    simp only [Prod.mk.injEq] at e1
    exact ⟨hg, f', b', q, e1.1, e1.2, rfl, hf, hq⟩
  obtain ⟨r, hr⟩ : ∃ r, r = appendJ d (f, b) p x := ⟨_, rfl⟩
  rw [← hr] at hcs ⊢
  obtain ⟨pl, hpl⟩ : ∃ pl, pl = placedJ d (f, b) p := ⟨_, rfl⟩
  rw [← hpl] at hcs hrg HC
  clear hr hpl
  obtain ⟨ab, cb, ac, cc, rfl, _, _, hbc, _⟩ := h.form
  clear h hbc hx
  obtain ⟨k1, k2, k3x, _, hbl⟩ := alloc3 w (.cells #[.slice ab d.1.length cb, .slice ac d.2.length cc] 29) (.cells #[.int .i64 f, .int .i64 b] 65) (.cells #[.slice none 0 0, .slice none 0 0] 29)
  have k3 := show _[w.heap.size + 1 + 1]? = _ from k3x
  clear k3x
  have bad : ∀ w1 W1 (e : Nat), Below w.heap.size w w1 → w1.heap[w.heap.size + 1 + 1]? = some (.cells #[.slice none 0 0, .slice none 0 0] 29) → W1 = (w1.setCell ⟨w.heap.size + 1 + 1, 0, none⟩ (.slice none 0 0)).setCell ⟨w.heap.size + 1 + 1, 1, none⟩ (.slice none 0 0) → r = (none0, 0, e) → ∃ cs, W1.heap[w.heap.size + 1 + 1]? = some (.cells cs 29 (0, 0)) ∧ cs.size = 2 ∧ AppPost w r (.returned (.tuple #[.agg cs, .int .i64 0, .int .i64 (e : Nat)])) W1 := by
    rintro w1 W1 e hb hk rfl rfl
    exact ⟨_, set_two hk, rfl, _, rfl, DiskIs.none _, below_set (below_set hb (by omega)) (by omega)⟩
  have hBad := Lib.hid bad
  clear bad
  go_enter Tryz.func68, Tryz.ntmps68
  go_wp2_with fail
  refine (HC.out _ (hD.out.below hbl)).mono ?_
  rintro e w1 ⟨rfl, b1⟩
  have k1' := heap_below k1 b1
  have k2' := heap_below k2 b1
  have k3' := heap_below k3 b1
  have hb1 := hbl.trans (b1.mono hbl.size)
  have c0 := cell2_0 k1'
  have c1 := cell2_1 k1'
  have r0 := cell2_0 k2'
  have r1 := cell2_1 k2'
  have z0 := cell2_0 k3'
  have z1 := cell2_1 k3'
  have f0 := frozen2 k3' 0
  have f1 := frozen2 k3' 1
  clear k1 k2 k3 hbl b1
  rcases hcs with ⟨h1, hr⟩ | ⟨h1, h2, hr⟩ | ⟨h1, h2, h3, h4, h5, hr⟩ | ⟨h1, h2, h3, h4, h5, h6, hr⟩ | ⟨h1, h2, h3, h4, h5, h6, hr⟩
  · have h0' : ((pl : Int) == 0) = false := by simp; exact h1
    clear h1 hrg
    go_wp2
    obtain ⟨cs, q1, q2, q3⟩ := hBad.out _ _ _ hb1 k3' rfl hr
    refine bodyPost_ret (results_cell_tmp2 rfl _ _ (w.heap.size + 1 + 1) _ _ _ _ rfl q1 Tryz.underlying29 rfl (by rw [q2]; kernel_rfl)) rfl ?_
    exact q3
  all_goals subst h1
  · obtain ⟨s, hs⟩ : ∃ s, s = sizeF x := ⟨_, rfl⟩
    rw [← hs] at HZ h2 hr
    obtain ⟨s1, s2⟩ := s
    dsimp only at HZ h2 hr
    have h0' : ((s2 : Int) == 0) = false := by simp; exact h2
    clear hs h2 hrg
    go_wp2_with fail
    refine (HZ.out _).mono ?_
    rintro e w2 ⟨rfl, rfl⟩
    go_wp2
    obtain ⟨cs, q1, q2, q3⟩ := hBad.out _ _ _ hb1 k3' rfl hr
    refine bodyPost_ret (results_cell_tmp2 rfl _ _ (w.heap.size + 1 + 1) _ _ _ _ rfl q1 Tryz.underlying29 rfl (by rw [q2]; kernel_rfl)) rfl ?_
    exact q3
  all_goals
    obtain ⟨hg, f', b', q, rfl, rfl, rfl, hf, hq⟩ := hrg rfl
    have hdl := hg.2.1
    rw [h2] at HZ
    dsimp only at HZ
    have HL := Lib.hid (fun W => Rlength_any (f' : Int) (b' : Int) W (by omega) (by omega))
    have hrh := Lib.hid hr
    clear hrg h2 hr
  · have h5' : decide (64 * (b' : Int) - (q : Int) < (x.length : Int) + 10) = true := by simp; omega
    clear h5
    go_wp2_with fail
    refine (HZ.out _).mono ?_
    rintro e w2 ⟨rfl, rfl⟩
    go_wp2_with fail
    refine (HL.out _).mono ?_
    rintro e w3 ⟨rfl, b3⟩
    have k3 := heap_below k3' b3
    have hb3 := hb1.trans (b3.mono hb1.size)
    have z0 := cell2_0 k3
    have z1 := cell2_1 k3
    have f0 := frozen2 k3 0
    have f1 := frozen2 k3 1
    go_wp2
    obtain ⟨cs, q1, q2, q3⟩ := hBad.out _ _ _ hb3 k3 rfl hrh.out
    refine bodyPost_ret (results_cell_tmp2 rfl _ _ (w.heap.size + 1 + 1) _ _ _ _ rfl q1 Tryz.underlying29 rfl (by rw [q2]; kernel_rfl)) rfl ?_
    exact q3
  all_goals
    have h5' : decide (64 * (b' : Int) - (q : Int) < (x.length : Int) + 10) = false := by simp; omega
    have hqx : q + (x.length + 10) ≤ 64 * b' := by omega
    have HR := Lib.hid (fun W h => Rread_any d (.agg #[.slice ab d.1.length cb, .slice ac d.2.length cc]) f' b' q (x.length + 10) W h hg hf hqx)
    have hrl := regJ_length hg hf
    rw [Int.toNat_natCast] at h6
    rw [show ((x.length + 10 : Nat) : Int) = (x.length : Int) + 10 by omega] at HR
    obtain ⟨Y, hY⟩ : ∃ Y, Y = ((regJ d ((f' : Int), (b' : Int))).drop q).take (x.length + 10) := ⟨_, rfl⟩
    have hYl : Y.length ≤ 262144 := by rw [hY, List.length_take, List.length_drop]; omega
    rw [← hY] at h6 HR
    have HT := Lib.hid (fun W => blank_any Y W (by omega))
    rw [h6] at HT
    have hqb : q ≤ 262144 := by omega
    clear h5 h6 hY hrl hYl
    go_wp2_with fail
    refine (HZ.out _).mono ?_
    rintro e w2 ⟨rfl, rfl⟩
    go_wp2_with fail
    refine (HL.out _).mono ?_
    rintro e w3 ⟨rfl, b3⟩
    have k13 := heap_below k1' b3
    have k23 := heap_below k2' b3
    have k33 := heap_below k3' b3
    have hb3 := hb1.trans (b3.mono hb1.size)
    clear c0 c1 r0 r1 z0 z1 f0 f1 k1' k2' k3' hb1
    have c0 := cell2_0 k13
    have c1 := cell2_1 k13
    have r0 := cell2_0 k23
    have r1 := cell2_1 k23
    go_wp2_with fail
    refine (HR.out _ (hD.out.below hb3)).mono ?_
    rintro e w4 ⟨rfl, b4⟩
    have hb4 := hb3.trans (b4.mono hb3.size)
    have k14 := heap_below k13 b4
    have k24 := heap_below k23 b4
    have k34 := heap_below k33 b4
    clear c0 c1 r0 r1 b3 b4 k13 k23 k33 hb3
    go_wp2_with fail
    refine (HT.out _).mono ?_
    rintro e w5 ⟨rfl, rfl⟩
    have hb5 := hb4
    have k15 := k14
    have k25 := k24
    have k35 := k34
    clear k14 k24 k34 hb4
  · have z0 := cell2_0 k35
    have z1 := cell2_1 k35
    have f0 := frozen2 k35 0
    have f1 := frozen2 k35 1
    go_wp2
    obtain ⟨cs, q1, q2, q3⟩ := hBad.out _ _ _ hb5 k35 rfl hrh.out
    refine bodyPost_ret (results_cell_tmp2 rfl _ _ (w.heap.size + 1 + 1) _ _ _ _ rfl q1 Tryz.underlying29 rfl (by rw [q2]; kernel_rfl)) rfl ?_
    exact q3
  · have HF := Lib.hid (fun W => Rform_any x h4 W)
    have e1 : 64 * (f' : Int) + (q : Int) = ((64 * f' + q : Nat) : Int) := by omega
    have HW := Lib.hid (fun v W h => (RWrite_any d v (64 * (f' : Int) + (q : Int)) (formJ x) W h).mono (fun _ _ => as_diskN))
    obtain ⟨u, hu⟩ : ∃ u, u = writeD d (64 * (f' : Int) + (q : Int)) (formJ x) := ⟨_, rfl⟩
    have hr := hrh.out
    rw [← hu] at HW hr
    obtain ⟨ud, uk⟩ := u
    dsimp only at HW hr
    obtain ⟨F, hF⟩ : ∃ F, F = formJ x := ⟨_, rfl⟩
    rw [← hF] at HW HF
    have hr' := Lib.hid hr
    clear hu hF hr hrh e1
    have hd5 := hD.out.below hb5
    have wr1 : IntKind.i64.wrap (64 * (f' : Int)) = 64 * (f' : Int) := by rw [IntKind.wrap_i64]; omega
    have wr2 : IntKind.i64.wrap (64 * (f' : Int) + (q : Int)) = 64 * (f' : Int) + (q : Int) := by rw [IntKind.wrap_i64]; omega
    have c0 := cell2_0 k15
    have c1 := cell2_1 k15
    have g0 := frozen2 k15 0
    have g1 := frozen2 k15 1
    have r0 := cell2_0 k25
    have r1 := cell2_1 k25
    have B := Lib.hid (hb5.drew)
    have k15d := Lib.hid (show w5.drew.heap[w.heap.size]? = _ from k15)
    have k35d := Lib.hid (show w5.drew.heap[w.heap.size + 1 + 1]? = _ from k35)
    have hrq := Lib.hid hr'.out
    clear hr' hd5 hb5 k15 k25 k35
    go_upto_region 11 with (fail)
    go_cut [11] from 48 to 59 (fun u W => ∃ (nb3 nc3 cb3 cc3 : Nat) (ab3 ac3 : Option Addr), u = .int .i64 (uk : Int) ∧ W.heap[w.heap.size]? = some (.cells #[.slice ab3 nb3 cb3, .slice ac3 nc3 cc3] 29 (0, 0)) ∧ DiskIs W ud (.agg #[.slice ab3 nb3 cb3, .slice ac3 nc3 cc3]) ∧ W.heap[w.heap.size + 1 + 1]? = some (.cells #[.slice none 0 0, .slice none 0 0] 29 (0, 0)) ∧ Below w.heap.size w W)
    case first =>
      go_region_with (first
        | (go_at_call 112; refine (HF.out _).mono ?_; rintro e w6 ⟨rfl, b6⟩
           have o0 := cell_below b6 (show w5.drew.cell? _ = _ from c0); have o1 := cell_below b6 (show w5.drew.cell? _ = _ from c1); have o2 := cell_below b6 (show w5.drew.cell? _ = _ from r0)
           have B6 := Lib.hid (B.out.trans (b6.mono B.out.size))
           have k16 := Lib.hid (heap_below k15d.out b6); have k36 := Lib.hid (heap_below k35d.out b6))
        | (go_at_call 43; refine (HW.out _ _ (hD.out.below B6.out)).mono ?_; rintro e w7 ⟨ab3, nb3, cb3, ac3, nc3, cc3, rfl, xd3, b7⟩
           have B7 := Lib.hid (B6.out.trans (b7.mono B6.out.size))
           have k17 := heap_below k16.out b7; have k37 := heap_below k36.out b7
           have p0 := cell2_0 k17; have p1 := cell2_1 k17; have p2 := frozen2 k17 0; have p3 := frozen2 k17 1))
      all_goals
        go_wp2_with fail
        go_meet
        exact ⟨_, _, _, _, _, _, rfl, set_two k17, disk_apart (disk_apart xd3 k17) (Lib.heap_setCell_same (i := 0) k17 _), two_other (by omega) k37, below_set (below_set B7.out (Nat.le_refl _)) (Nat.le_refl _)⟩
    case rest =>
      obtain ⟨nb3, nc3, cb3, cc3, ab3, ac3, rfl, g3, xd3, k36, hb6⟩ := hcut
      clear k15d k35d c0 c1 g0 g1 r0 r1 B
      have z0 := cell2_0 k36
      have z1 := cell2_1 k36
      have f0 := frozen2 k36 0
      have f1 := frozen2 k36 1
      have y0 := cell2_0 g3
      have y1 := cell2_1 g3
      have hr := Lib.hid hrq.out
      clear hrq
      by_cases hu : uk = 0
      · subst hu
        have hr2 := hr.out
        rw [if_neg (by simp)] at hr2
        have hP : AppPost w r (.returned (.tuple #[.agg #[.slice ab3 nb3 cb3, .slice ac3 nc3 cc3], .int .i64 ((q : Int) + ((x.length : Int) + 10)), .int .i64 0])) ((wc.setCell ⟨w.heap.size + 1 + 1, 0, none⟩ (.slice ab3 nb3 cb3)).setCell ⟨w.heap.size + 1 + 1, 1, none⟩ (.slice ac3 nc3 cc3)) := by
          rw [hr2]
          exact ⟨_, rfl, disk_apart (disk_apart xd3 k36) (Lib.heap_setCell_same (i := 0) k36 _), below_set (below_set hb6 (by omega)) (by omega)⟩
        have hP' := Lib.hid hP
        have hq' : q ≤ 262144 := hqb
        clear hr2 hr hP
        go_wp2
        refine bodyPost_ret (results_cell_tmp2 rfl _ _ (w.heap.size + 1 + 1) _ _ _ _ rfl (set_two k36) Tryz.underlying29 rfl (by kernel_rfl)) rfl ?_
        exact hP'.out
      · have h0' : ((uk : Int) == 0) = false := by simp; exact hu
        have hr2 := hr.out
        rw [if_pos hu] at hr2
        have hr3 := Lib.hid hr2
        clear hr2 hr hu
        go_wp2
        obtain ⟨cs, q1, q2, q3⟩ := hBad.out _ _ _ hb6 k36 rfl hr3.out
        refine bodyPost_ret (results_cell_tmp2 rfl _ _ (w.heap.size + 1 + 1) _ _ _ _ rfl q1 Tryz.underlying29 rfl (by rw [q2]; kernel_rfl)) rfl ?_
        exact q3
end Go.Proofs.YtmfbkelhegdmpaaGreatDoor
