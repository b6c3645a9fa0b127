/- The walk of JournalReads, chapter 12 (journal). -/
import Derived.Test.YthhghggaoljcbaaDoorJournalS
import Derived.Test.YthhghggaoljcbaaDoorJournalJ
import Derived.Test.YthhghggaoljcbaaDoorJournalN
import Derived.Test.YthhghggaoljcbaaDoorJournalQ
import Derived.Test.YthhghggaoljcbaaDoorDiskKit
namespace Go.Proofs.YthhghggaoljcbaaDoor
open Go.RowKit Disk11 Journal12 Sum2

theorem replayJ_len (d : Dev) (f b : Int) : (replayJ d (f, b)).1.length ≤ 262144 := by
  unfold replayJ
  by_cases h : chkJ d (f, b) = 0
  · obtain ⟨hg, f', b', e1, hb1, hfb⟩ := chkJ_ok h
    simp only [Prod.mk.injEq] at e1
    obtain ⟨rfl, rfl⟩ := e1
    have hl := hg.2.1
    rw [h, if_neg (by simp)]
    have h1 := size_ge (recsJ (regJ d ((f' : Int), (b' : Int))))
    have h2 := recs_size (regJ d ((f' : Int), (b' : Int)))
    rw [regJ_length hg hfb] at h2
    show (recsJ (regJ d ((f' : Int), (b' : Int)))).length ≤ _
    omega
  · rw [if_pos h]; exact Nat.zero_le _
theorem placesJ_len (d : Dev) (f b : Int) : (placesJ d (f, b)).1.length ≤ 262144 := by
  have h := replayJ_len d f b
  unfold replayJ at h
  unfold placesJ
  by_cases h0 : chkJ d (f, b) = 0
  · rw [h0, if_neg (by simp)] at h ⊢
    show (offsJ 0 _).length ≤ _
    rw [offsJ_length]; exact h
  · rw [if_pos h0]; exact Nat.zero_le _
theorem cutJ_len (d : Dev) (f b p : Int) : (cutJ d (f, b) p).1.1.length ≤ d.1.length ∧ (cutJ d (f, b) p).1.2.length ≤ d.2.length + 1 := by
  unfold cutJ
  split
  · simp [none0]
  · split
    · exact ⟨Nat.le_refl _, Nat.le_succ _⟩
    · exact writeD_len _ _ _
theorem as_replayN {B : Nat} {w w' : World} {e : Ending} {r : List (List UInt8) × Nat × Nat}
    (h : ∃ v', e = .returned (.tuple #[v', .int .i64 (r.2.1 : Nat), .int .i64 (r.2.2 : Nat)]) ∧ Txt w' B v' r.1 ∧ Below B w w') :
    ∃ ad c, e = .returned (.tuple #[.slice ad r.1.length c, .int .i64 (r.2.1 : Nat), .int .i64 (r.2.2 : Nat)]) ∧ Row w' 1 (.slice ad r.1.length c) r.1.length (strVals r.1) ∧ Below B w w' := by
  obtain ⟨v', rfl, ht, hb⟩ := h
  obtain ⟨ad, c, rfl⟩ := ht.slice
  exact ⟨ad, c, rfl, Row.of_own ht, hb⟩
theorem as_placesN {B : Nat} {w w' : World} {e : Ending} {r : List Nat × Nat}
    (h : ∃ v', e = .returned (.tuple #[v', .int .i64 (r.2 : Nat)]) ∧ Ints w' B v' r.1 ∧ Below B w w') :
    ∃ ad c, e = .returned (.tuple #[.slice ad r.1.length c, .int .i64 (r.2 : Nat)]) ∧ Row w' 1 (.slice ad r.1.length c) r.1.length (intVals r.1) ∧ Below B w w' := by
  obtain ⟨v', rfl, ht, hb⟩ := h
  obtain ⟨ad, c, rfl⟩ := ht.slice
  exact ⟨ad, c, rfl, Row.of_own ht, hb⟩

set_option maxHeartbeats 8000000 in
set_option maxRecDepth 100000 in
theorem JournalReads_any (d : Dev) (v : Value) (f b p : Int) (w : World) (h : DiskIs w d v) (ht : Tab w) :
    Calls Tryd.prog 4 #[v, .agg #[.int .i64 f, .int .i64 b], .int .i64 p] w fun e w' => e = .returned (.bool true) ∧ Below w.heap.size w w' := by
  have HL := Lib.hid (fun v W h => LightDisk_any d v 12 12 W h (by decide) (by decide))
  have HA := Lib.hid (fun W t => awake_any W t)
  have hT := Lib.hid ht
  have hD := Lib.hid h
  obtain ⟨q, hq⟩ : ∃ q, q = light d 12 12 := ⟨_, rfl⟩
  rw [← hq] at HL
  obtain ⟨ab, cb, ac, cc, rfl, _, _, _, _⟩ := h.form
  obtain ⟨D_0, R_0, _, t0⟩ := alloc2 w (.cells #[.slice ab d.1.length cb, .slice ac d.2.length cc] 25) (.cells #[.int .i64 f, .int .i64 b] 27)
  have d_0 := h.below t0
  clear h ht
  cases q with
  | false =>
    clear hq
    go_enter Tryd.func4, Tryd.ntmps4
    go_wp2_with fail
    refine (HL.out _ _ d_0).mono ?_
    rintro e w1 ⟨rfl, b1⟩
    go_wp2_with fail
    refine (HA.out _ (hT.out.below (t0.trans (b1.mono t0.size)))).mono ?_
    rintro e w2 ⟨rfl, b2⟩
    go_wp2
    go_ret
    exact ⟨rfl, t0.trans ((andThen b1 b2).mono t0.size)⟩
  | true =>
    obtain ⟨l1, l2, _, _⟩ := (light_iff d 12 12).1 hq.symm
    clear hq
    have hcl := cutJ_len d f b p
    have hrl := replayJ_len d f b
    have hpl := placesJ_len d f b
    have HO := Lib.hid (fun v W h => OwnDisk_is d v W h (by omega) (by omega))
    have HR := Lib.hid (fun v W h t => (Replay_any d v f b W h t).mono (fun _ _ => as_replayN))
    have HRR := Lib.hid (fun v W h => (RReplay_any d v f b W h).mono (fun _ _ => as_replayN))
    have HP := Lib.hid (fun v W h t => (Places_any d v f b W h t).mono (fun _ _ => as_placesN))
    have HRP := Lib.hid (fun v W h => (RPlaces_any d v f b W h).mono (fun _ _ => as_placesN))
    have HC := Lib.hid (fun v W h => Clean_any d v f b p W h)
    have HRC := Lib.hid (fun v W h => RClean_any d v f b p W h)
    have HU := Lib.hid (fun v W h => (JCut_any d v f b p W h).mono (fun _ _ => as_diskN))
    have HRU := Lib.hid (fun v W h => (RJCut_any d v f b p W h).mono (fun _ _ => as_diskN))
    have HM := Lib.hid (fun W => Room_any f b p W)
    have HRM := Lib.hid (fun W => RRoom_any f b p W)
    have HSD := Lib.hid (fun v1 v2 W r1 r2 => SameDisk_same d v1 v2 W r1 r2 (by omega) (by omega))
    generalize replayJ d (f, b) = rr at HR HRR hrl
    generalize placesJ d (f, b) = pp at HP HRP hpl
    generalize cleanJ d (f, b) p = kk at HC HRC
    generalize cutJ d (f, b) p = uu at HU HRU hcl
    generalize roomJ (f, b) p = mm at HM HRM
    obtain ⟨rl, rz, rk⟩ := rr
    obtain ⟨pl, pk⟩ := pp
    obtain ⟨kb, kk⟩ := kk
    obtain ⟨ud, uk⟩ := uu
    obtain ⟨mz, mk⟩ := mm
    dsimp only at HR HRR HP HRP HC HRC HU HRU HM HRM hrl hpl hcl
    have HST := Lib.hid (fun v1 v2 W r1 r2 => SameTexts_same rl v1 v2 W r1 r2 (by omega))
    have HSI := Lib.hid (fun v1 v2 W r1 r2 => SameInts_same pl v1 v2 W r1 r2 (by omega))
    have HSU := Lib.hid (fun v1 v2 W r1 r2 => SameDisk_same ud v1 v2 W r1 r2 (by omega) (by omega))
    clear hcl hrl hpl l1 l2
    go_enter Tryd.func4, Tryd.ntmps4
    go_wp2_with fail
    refine (HL.out _ _ d_0).mono ?_
    rintro e w1 ⟨rfl, b1⟩
    have D_1 := heap_below D_0 b1
    have R_1 := heap_below R_0 b1
    have d_1 := d_0.below b1
    have t1 := t0.trans (b1.mono t0.size)
    clear D_0 R_0 d_0 t0 b1
    have Dx0 := cell2_0 D_1
    have Dx1 := cell2_1 D_1
    go_wp2_with fail
    refine (HO.out _ _ d_1).mono ?_
    rintro e w2 ⟨ab1, cb1, ac1, cc1, rfl, er_2, b2⟩
    have a2 := Go.Joins.below_alloc1 w2 (.cells #[.slice ab1 d.1.length cb1, .slice ac1 d.2.length cc1] 25)
    have E_2 := World.alloc_heap_new w2 (.cells #[.slice ab1 d.1.length cb1, .slice ac1 d.2.length cc1] 25)
    have c2 := b2.trans (a2.mono b2.size)
    have D_2 := heap_below D_1 c2
    have R_2 := heap_below R_1 c2
    have d_2 := d_1.below c2
    have t2 := t1.trans (c2.mono t1.size)
    have e_2 := er_2.below a2
    clear Dx0 Dx1 D_1 R_1 d_1 t1 er_2 a2 b2 c2
    have Ex0 := cell2_0 E_2
    have Ex1 := cell2_1 E_2
    have Rx0 := cell2_0 R_2
    have Rx1 := cell2_1 R_2
    go_wp2_with fail
    refine (HR.out _ _ e_2 (hT.out.below t2)).mono ?_
    rintro e w3 ⟨aR, cR, rfl, r_3, b3⟩
    have D_3 := heap_below D_2 b3
    have R_3 := heap_below R_2 b3
    have d_3 := d_2.below b3
    have E_3 := heap_below E_2 b3
    have e_3 := e_2.below b3
    have t3 := t2.trans (b3.mono t2.size)
    clear Ex0 Ex1 Rx0 Rx1 D_2 R_2 d_2 E_2 e_2 t2 b3
    have Dx0 := cell2_0 D_3
    have Dx1 := cell2_1 D_3
    have Rx0 := cell2_0 R_3
    have Rx1 := cell2_1 R_3
    go_wp2_with fail
    refine (HRR.out _ _ d_3).mono ?_
    rintro e w4 ⟨aS, cS, rfl, s_4, b4⟩
    have D_4 := heap_below D_3 b4
    have R_4 := heap_below R_3 b4
    have d_4 := d_3.below b4
    have E_4 := heap_below E_3 b4
    have e_4 := e_3.below b4
    have r_4 := r_3.below b4
    have t4 := t3.trans (b4.mono t3.size)
    clear Dx0 Dx1 Rx0 Rx1 D_3 R_3 d_3 E_3 e_3 r_3 t3 b4
    go_wp2_with fail
    refine (HST.out _ _ _ r_4 s_4).mono ?_
    rintro e w5 ⟨rfl, b5⟩
    have D_5 := heap_below D_4 b5
    have R_5 := heap_below R_4 b5
    have d_5 := d_4.below b5
    have E_5 := heap_below E_4 b5
    have e_5 := e_4.below b5
    have r_5 := r_4.below b5
    have s_5 := s_4.below b5
    have t5 := t4.trans (b5.mono t4.size)
    clear D_4 R_4 d_4 E_4 e_4 r_4 s_4 t4 b5
    clear r_5 s_5
    have Ex0 := cell2_0 E_5
    have Ex1 := cell2_1 E_5
    have Rx0 := cell2_0 R_5
    have Rx1 := cell2_1 R_5
    go_wp2_with fail
    refine (HP.out _ _ e_5 (hT.out.below t5)).mono ?_
    rintro e w6 ⟨aP, cP, rfl, r_6, b6⟩
    have D_6 := heap_below D_5 b6
    have R_6 := heap_below R_5 b6
    have d_6 := d_5.below b6
    have E_6 := heap_below E_5 b6
    have e_6 := e_5.below b6
    have t6 := t5.trans (b6.mono t5.size)
    clear Ex0 Ex1 Rx0 Rx1 D_5 R_5 d_5 E_5 e_5 t5 b6
    have Dx0 := cell2_0 D_6
    have Dx1 := cell2_1 D_6
    have Rx0 := cell2_0 R_6
    have Rx1 := cell2_1 R_6
    go_wp2_with fail
    refine (HRP.out _ _ d_6).mono ?_
    rintro e w7 ⟨aQ, cQ, rfl, s_7, b7⟩
    have D_7 := heap_below D_6 b7
    have R_7 := heap_below R_6 b7
    have d_7 := d_6.below b7
    have E_7 := heap_below E_6 b7
    have e_7 := e_6.below b7
    have r_7 := r_6.below b7
    have t7 := t6.trans (b7.mono t6.size)
    clear Dx0 Dx1 Rx0 Rx1 D_6 R_6 d_6 E_6 e_6 r_6 t6 b7
    go_wp2_with fail
    refine (HSI.out _ _ _ r_7 s_7).mono ?_
    rintro e w8 ⟨rfl, b8⟩
    have D_8 := heap_below D_7 b8
    have R_8 := heap_below R_7 b8
    have d_8 := d_7.below b8
    have E_8 := heap_below E_7 b8
    have e_8 := e_7.below b8
    have r_8 := r_7.below b8
    have s_8 := s_7.below b8
    have t8 := t7.trans (b8.mono t7.size)
    clear D_7 R_7 d_7 E_7 e_7 r_7 s_7 t7 b8
    clear r_8 s_8
    have Ex0 := cell2_0 E_8
    have Ex1 := cell2_1 E_8
    have Rx0 := cell2_0 R_8
    have Rx1 := cell2_1 R_8
    go_wp2_with fail
    refine (HC.out _ _ e_8).mono ?_
    rintro e w9 ⟨rfl, b9⟩
    have D_9 := heap_below D_8 b9
    have R_9 := heap_below R_8 b9
    have d_9 := d_8.below b9
    have E_9 := heap_below E_8 b9
    have e_9 := e_8.below b9
    have t9 := t8.trans (b9.mono t8.size)
    clear Ex0 Ex1 Rx0 Rx1 D_8 R_8 d_8 E_8 e_8 t8 b9
    have Dx0 := cell2_0 D_9
    have Dx1 := cell2_1 D_9
    have Rx0 := cell2_0 R_9
    have Rx1 := cell2_1 R_9
    go_wp2_with fail
    refine (HRC.out _ _ d_9).mono ?_
    rintro e w10 ⟨rfl, b10⟩
    have D_10 := heap_below D_9 b10
    have R_10 := heap_below R_9 b10
    have d_10 := d_9.below b10
    have E_10 := heap_below E_9 b10
    have e_10 := e_9.below b10
    have t10 := t9.trans (b10.mono t9.size)
    clear Dx0 Dx1 Rx0 Rx1 D_9 R_9 d_9 E_9 e_9 t9 b10
    have Ex0 := cell2_0 E_10
    have Ex1 := cell2_1 E_10
    have Rx0 := cell2_0 R_10
    have Rx1 := cell2_1 R_10
    go_wp2_with fail
    refine (HU.out _ _ e_10).mono ?_
    rintro e w11 ⟨ab2, nb2, cb2, ac2, nc2, cc2, rfl, fr_11, b11⟩
    have a11 := Go.Joins.below_alloc1 w11 (.cells #[.slice ab2 nb2 cb2, .slice ac2 nc2 cc2] 25)
    have F_11 := World.alloc_heap_new w11 (.cells #[.slice ab2 nb2 cb2, .slice ac2 nc2 cc2] 25)
    have c11 := b11.trans (a11.mono b11.size)
    have D_11 := heap_below D_10 c11
    have R_11 := heap_below R_10 c11
    have d_11 := d_10.below c11
    have E_11 := heap_below E_10 c11
    have e_11 := e_10.below c11
    have t11 := t10.trans (c11.mono t10.size)
    have f_11 := fr_11.below a11
    clear Ex0 Ex1 Rx0 Rx1 D_10 R_10 d_10 E_10 e_10 t10 fr_11 a11 b11 c11
    have Dx0 := cell2_0 D_11
    have Dx1 := cell2_1 D_11
    have Rx0 := cell2_0 R_11
    have Rx1 := cell2_1 R_11
    go_wp2_with fail
    refine (HRU.out _ _ d_11).mono ?_
    rintro e w12 ⟨ab3, nb3, cb3, ac3, nc3, cc3, rfl, gr_12, b12⟩
    have a12 := Go.Joins.below_alloc1 w12 (.cells #[.slice ab3 nb3 cb3, .slice ac3 nc3 cc3] 25)
    have G_12 := World.alloc_heap_new w12 (.cells #[.slice ab3 nb3 cb3, .slice ac3 nc3 cc3] 25)
    have c12 := b12.trans (a12.mono b12.size)
    have D_12 := heap_below D_11 c12
    have R_12 := heap_below R_11 c12
    have d_12 := d_11.below c12
    have E_12 := heap_below E_11 c12
    have e_12 := e_11.below c12
    have F_12 := heap_below F_11 c12
    have f_12 := f_11.below c12
    have t12 := t11.trans (c12.mono t11.size)
    have g_12 := gr_12.below a12
    clear Dx0 Dx1 Rx0 Rx1 D_11 R_11 d_11 E_11 e_11 F_11 f_11 t11 gr_12 a12 b12 c12
    have Rx0 := cell2_0 R_12
    have Rx1 := cell2_1 R_12
    go_wp2_with fail
    refine (HM.out _).mono ?_
    rintro e w13 ⟨rfl, b13⟩
    have D_13 := heap_below D_12 b13
    have R_13 := heap_below R_12 b13
    have d_13 := d_12.below b13
    have E_13 := heap_below E_12 b13
    have e_13 := e_12.below b13
    have F_13 := heap_below F_12 b13
    have f_13 := f_12.below b13
    have G_13 := heap_below G_12 b13
    have g_13 := g_12.below b13
    have t13 := t12.trans (b13.mono t12.size)
    clear Rx0 Rx1 D_12 R_12 d_12 E_12 e_12 F_12 f_12 G_12 g_12 t12 b13
    have Rx0 := cell2_0 R_13
    have Rx1 := cell2_1 R_13
    go_wp2_with fail
    refine (HRM.out _).mono ?_
    rintro e w14 ⟨rfl, b14⟩
    have D_14 := heap_below D_13 b14
    have R_14 := heap_below R_13 b14
    have d_14 := d_13.below b14
    have E_14 := heap_below E_13 b14
    have e_14 := e_13.below b14
    have F_14 := heap_below F_13 b14
    have f_14 := f_13.below b14
    have G_14 := heap_below G_13 b14
    have g_14 := g_13.below b14
    have t14 := t13.trans (b14.mono t13.size)
    clear Rx0 Rx1 D_13 R_13 d_13 E_13 e_13 F_13 f_13 G_13 g_13 t13 b14
    have Fx0 := cell2_0 F_14
    have Fx1 := cell2_1 F_14
    have Gx0 := cell2_0 G_14
    have Gx1 := cell2_1 G_14
    go_wp2_with fail
    refine (HSU.out _ _ _ f_14 g_14).mono ?_
    rintro e w15 ⟨rfl, b15⟩
    have D_15 := heap_below D_14 b15
    have R_15 := heap_below R_14 b15
    have d_15 := d_14.below b15
    have E_15 := heap_below E_14 b15
    have e_15 := e_14.below b15
    have F_15 := heap_below F_14 b15
    have f_15 := f_14.below b15
    have G_15 := heap_below G_14 b15
    have g_15 := g_14.below b15
    have t15 := t14.trans (b15.mono t14.size)
    clear Fx0 Fx1 Gx0 Gx1 D_14 R_14 d_14 E_14 e_14 F_14 f_14 G_14 g_14 t14 b15
    have Ex0 := cell2_0 E_15
    have Ex1 := cell2_1 E_15
    have Dx0 := cell2_0 D_15
    have Dx1 := cell2_1 D_15
    go_wp2_with fail
    refine (HSD.out _ _ _ e_15 d_15).mono ?_
    rintro e w16 ⟨rfl, b16⟩
    have D_16 := heap_below D_15 b16
    have R_16 := heap_below R_15 b16
    have d_16 := d_15.below b16
    have E_16 := heap_below E_15 b16
    have e_16 := e_15.below b16
    have F_16 := heap_below F_15 b16
    have f_16 := f_15.below b16
    have G_16 := heap_below G_15 b16
    have g_16 := g_15.below b16
    have t16 := t15.trans (b16.mono t15.size)
    clear Ex0 Ex1 Dx0 Dx1 D_15 R_15 d_15 E_15 e_15 F_15 f_15 G_15 g_15 t15 b16
    go_wp2_with fail
    refine (HA.out _ (hT.out.below t16)).mono ?_
    rintro e w17 ⟨rfl, b17⟩
    have D_17 := heap_below D_16 b17
    have R_17 := heap_below R_16 b17
    have d_17 := d_16.below b17
    have E_17 := heap_below E_16 b17
    have e_17 := e_16.below b17
    have F_17 := heap_below F_16 b17
    have f_17 := f_16.below b17
    have G_17 := heap_below G_16 b17
    have g_17 := g_16.below b17
    have t17 := t16.trans (b17.mono t16.size)
    clear D_16 R_16 d_16 E_16 e_16 F_16 f_16 G_16 g_16 t16 b17
    go_wp2
    go_ret
    exact ⟨rfl, t17⟩
end Go.Proofs.YthhghggaoljcbaaDoor
