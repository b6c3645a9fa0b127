/- The walk of JournalAppends, chapter 12 (journal). -/
import Derived.Test.YthhghggaoljcbaaDoorJournalS
import Derived.Test.YthhghggaoljcbaaDoorJournalO
import Derived.Test.YthhghggaoljcbaaDoorDiskKit
namespace Go.Proofs.YthhghggaoljcbaaDoor
open Go.RowKit Disk11 Journal12 Sum2

theorem appendJ_len (d : Dev) (f b p : Int) (x : List UInt8) : (appendJ d (f, b) p x).1.1.length ≤ d.1.length ∧ (appendJ d (f, b) p x).1.2.length ≤ d.2.length + 1 := by
  rcases append_cases d f b p x with ⟨_, h⟩ | ⟨_, _, h⟩ | ⟨_, _, _, _, _, h⟩ | ⟨_, _, _, _, _, _, h⟩ | ⟨_, _, _, _, _, _, h⟩
  · rw [h]; simp [none0]
  · rw [h]; simp [none0]
  · rw [h]; simp [none0]
  · rw [h]; simp [none0]
  · rw [h]
    split
    · simp [none0]
    · exact writeD_len _ _ _
theorem as_appN {w w' : World} {e : Ending} {r : Dev × Int × Nat} (h : AppPost w r e w') :
    ∃ ab nb cb ac nc cc, e = .returned (.tuple #[.agg #[.slice ab nb cb, .slice ac nc cc], .int .i64 r.2.1, .int .i64 (r.2.2 : Nat)]) ∧ DiskIs w' r.1 (.agg #[.slice ab nb cb, .slice ac nc cc]) ∧ Below w.heap.size w w' := by
  obtain ⟨v', rfl, hd, hb⟩ := h
  obtain ⟨ab, cb, ac, cc, rfl, _⟩ := hd.form
  exact ⟨ab, _, cb, ac, _, cc, rfl, hd, hb⟩

set_option maxHeartbeats 8000000 in
set_option maxRecDepth 100000 in
theorem JournalAppends_any (d : Dev) (v : Value) (f b p : Int) (x : List UInt8) (w : World) (h : DiskIs w d v) (ht : Tab w) (hx : x.length ≤ 140737488351232) :
    Calls Tryd.prog 3 #[v, .agg #[.int .i64 f, .int .i64 b], .int .i64 p, .string ⟨x.toArray⟩] w fun e w' => e = .returned (.bool true) ∧ Below w.heap.size w w' := by
  have HL := Lib.hid (fun v W h => LightDisk_any d v 12 12 W h (by decide) (by decide))
  have HA := Lib.hid (fun W t => awake_any W t)
  have hT := Lib.hid ht
  obtain ⟨q, hq⟩ : ∃ q, q = light d 12 12 := ⟨_, rfl⟩
  rw [← hq] at HL
  obtain ⟨ab, cb, ac, cc, rfl, _, _, _, _⟩ := h.form
  obtain ⟨D_0, R_0, _, t0⟩ := alloc2 w (.cells #[.slice ab d.1.length cb, .slice ac d.2.length cc] 25) (.cells #[.int .i64 f, .int .i64 b] 27)
  have d_0 := h.below t0
  clear h ht
  have early : Hid (q = false ∨ q = true ∧ (decide ((700 : Int) < x.length) = true ∧ decide ((x.length : Int) ≤ 60000) = true) ∨ q = true ∧ ((decide ((700 : Int) < x.length) = false ∨ decide ((700 : Int) < x.length) = true ∧ decide ((x.length : Int) ≤ 60000) = false) ∧ (decide ((60010 : Int) < x.length) = true ∨ decide ((60010 : Int) < x.length) = false))) := Lib.hid (by
    cases q
    · exact .inl rfl
    · by_cases h1 : 700 < x.length
      · by_cases h2 : x.length ≤ 60000
        · exact .inr (.inl ⟨rfl, by simp; omega, by simp; omega⟩)
        · by_cases h3 : 60010 < x.length
          · exact .inr (.inr ⟨rfl, .inr ⟨by simp; omega, by simp; omega⟩, .inl (by simp; omega)⟩)
          · exact .inr (.inr ⟨rfl, .inr ⟨by simp; omega, by simp; omega⟩, .inr (by simp; omega)⟩)
      · exact .inr (.inr ⟨rfl, .inl (by simp; omega), .inr (by simp; omega)⟩))
  rcases early.out with rfl | ⟨rfl, g1, g2⟩ | ⟨rfl, g | ⟨g, g2⟩, g3 | g3⟩
  all_goals clear early
  all_goals try (
    clear hq
    go_enter Tryd.func3, Tryd.ntmps3
    go_wp2_with fail
    refine (HL.out _ _ d_0).mono ?_
    rintro e w1 ⟨rfl, b1⟩
    go_wp2_with fail
    refine (HA.out _ (hT.out.below (t0.trans (b1.mono t0.size)))).mono ?_
    rintro e w2 ⟨rfl, b2⟩
    go_wp2
    go_ret
    exact ⟨rfl, t0.trans ((andThen b1 b2).mono t0.size)⟩)
  all_goals
    obtain ⟨l1, l2, _, _⟩ := (light_iff d 12 12).1 hq.symm
    clear hq
    have hcl := appendJ_len d f b p x
    have HO := Lib.hid (fun v W h => OwnDisk_is d v W h (by omega) (by omega))
    have HP := Lib.hid (fun v W h t => (JAppend_any d v f b p x W h t (by omega)).mono (fun _ _ => as_appN))
    have HRP := Lib.hid (fun v W h => (RJAppend_any d v f b p x W h (by omega)).mono (fun _ _ => as_appN))
    have HZ := Lib.hid (fun W => Size_any x W (by omega))
    have HRZ := Lib.hid (fun W => RSize_any x W (by omega))
    have HC := Lib.hid (fun v W h => JCheck_any d v f b W h)
    have HRC := Lib.hid (fun v W h => RJCheck_any d v f b W h)
    generalize appendJ d (f, b) p x = uu at HP HRP hcl
    generalize sizeF x = zz at HZ HRZ
    generalize chkJ d (f, b) = ck at HC HRC
    obtain ⟨ud, uz, uk⟩ := uu
    obtain ⟨zz, zk⟩ := zz
    dsimp only at HP HRP HZ HRZ hcl
    have HSY := Lib.hid (fun D v1 v2 W (hh : DiskIs W D v1 ∧ DiskIs W D v2 ∧ D.1.length < 4398046511104 ∧ D.2.length < 4398046511104) => SameDisk_same D v1 v2 W hh.1 hh.2.1 hh.2.2.1 hh.2.2.2)
    have hlu : ud.1.length < 4398046511104 ∧ ud.2.length < 4398046511104 := by omega
    have hld : d.1.length < 4398046511104 ∧ d.2.length < 4398046511104 := by omega
    have HLU := Lib.hid hlu
    have HLD := Lib.hid hld
    clear hcl l1 l2 hlu hld
    go_enter Tryd.func3, Tryd.ntmps3
    go_wp2_with fail
    refine (HL.out _ _ d_0).mono ?_
    rintro e w1 ⟨rfl, b1⟩
    have D_1 := heap_below D_0 b1
    have R_1 := heap_below R_0 b1
    have d_1 := d_0.below b1
    have t1 := t0.trans (b1.mono t0.size)
    clear D_0 R_0 d_0 t0 b1
    have Dx0 := cell2_0 D_1
    have Dx1 := cell2_1 D_1
    go_wp2_with fail
    refine (HO.out _ _ d_1).mono ?_
    rintro e w2 ⟨ab1, cb1, ac1, cc1, rfl, er_2, b2⟩
    have a2 := Go.Joins.below_alloc1 w2 (.cells #[.slice ab1 d.1.length cb1, .slice ac1 d.2.length cc1] 25)
    have E_2 := World.alloc_heap_new w2 (.cells #[.slice ab1 d.1.length cb1, .slice ac1 d.2.length cc1] 25)
    have c2 := b2.trans (a2.mono b2.size)
    have D_2 := heap_below D_1 c2
    have R_2 := heap_below R_1 c2
    have d_2 := d_1.below c2
    have t2 := t1.trans (c2.mono t1.size)
    have e_2 := er_2.below a2
    clear Dx0 Dx1 D_1 R_1 d_1 t1 er_2 a2 b2 c2
    have Ex0 := cell2_0 E_2
    have Ex1 := cell2_1 E_2
    have Rx0 := cell2_0 R_2
    have Rx1 := cell2_1 R_2
    go_wp2_with fail
    refine (HP.out _ _ e_2 (hT.out.below t2)).mono ?_
    rintro e w3 ⟨ab2, nb2, cb2, ac2, nc2, cc2, rfl, fr_3, b3⟩
    have a3 := Go.Joins.below_alloc1 w3 (.cells #[.slice ab2 nb2 cb2, .slice ac2 nc2 cc2] 25)
    have F_3 := World.alloc_heap_new w3 (.cells #[.slice ab2 nb2 cb2, .slice ac2 nc2 cc2] 25)
    have c3 := b3.trans (a3.mono b3.size)
    have D_3 := heap_below D_2 c3
    have R_3 := heap_below R_2 c3
    have d_3 := d_2.below c3
    have E_3 := heap_below E_2 c3
    have e_3 := e_2.below c3
    have t3 := t2.trans (c3.mono t2.size)
    have f_3 := fr_3.below a3
    clear Ex0 Ex1 Rx0 Rx1 D_2 R_2 d_2 E_2 e_2 t2 fr_3 a3 b3 c3
    have Dx0 := cell2_0 D_3
    have Dx1 := cell2_1 D_3
    have Rx0 := cell2_0 R_3
    have Rx1 := cell2_1 R_3
    go_wp2_with fail
    refine (HRP.out _ _ d_3).mono ?_
    rintro e w4 ⟨ab3, nb3, cb3, ac3, nc3, cc3, rfl, gr_4, b4⟩
    have a4 := Go.Joins.below_alloc1 w4 (.cells #[.slice ab3 nb3 cb3, .slice ac3 nc3 cc3] 25)
    have G_4 := World.alloc_heap_new w4 (.cells #[.slice ab3 nb3 cb3, .slice ac3 nc3 cc3] 25)
    have c4 := b4.trans (a4.mono b4.size)
    have D_4 := heap_below D_3 c4
    have R_4 := heap_below R_3 c4
    have d_4 := d_3.below c4
    have E_4 := heap_below E_3 c4
    have e_4 := e_3.below c4
    have F_4 := heap_below F_3 c4
    have f_4 := f_3.below c4
    have t4 := t3.trans (c4.mono t3.size)
    have g_4 := gr_4.below a4
    clear Dx0 Dx1 Rx0 Rx1 D_3 R_3 d_3 E_3 e_3 F_3 f_3 t3 gr_4 a4 b4 c4
    go_wp2_with fail
    refine (HZ.out _).mono ?_
    rintro e w' ⟨rfl, rfl⟩
    go_wp2_with fail
    refine (HRZ.out _).mono ?_
    rintro e w' ⟨rfl, rfl⟩
    have s0_0 := cell2_0 F_4
    have s0_1 := cell2_1 F_4
    have s0_2 := cell2_0 G_4
    have s0_3 := cell2_1 G_4
    have s0_4 := cell2_0 E_4
    have s0_5 := cell2_1 E_4
    have s0_6 := cell2_0 R_4
    have s0_7 := cell2_1 R_4
    have s0_8 := cell2_0 D_4
    have s0_9 := cell2_1 D_4
    have hfg := Lib.hid (And.intro f_4 g_4)
    have hed := Lib.hid (And.intro e_4 d_4)
    have B0 := Lib.hid t4
    generalize w4.alloc (.cells #[.slice ab3 nb3 cb3, .slice ac3 nc3 cc3] 25) = W0 at *
    clear F_4 G_4 E_4 R_4 D_4 f_4 g_4 e_4 d_4 t4
    go_upto_region 8 with (fail)
    go_region_held3 (fun V => V.cell? ⟨w3.heap.size, 0, none⟩ = some (.slice ab2 nb2 cb2) ∧ V.cell? ⟨w3.heap.size, 1, none⟩ = some (.slice ac2 nc2 cc2) ∧ V.cell? ⟨w4.heap.size, 0, none⟩ = some (.slice ab3 nb3 cb3) ∧ V.cell? ⟨w4.heap.size, 1, none⟩ = some (.slice ac3 nc3 cc3) ∧ V.cell? ⟨w2.heap.size, 0, none⟩ = some (.slice ab1 d.1.length cb1) ∧ V.cell? ⟨w2.heap.size, 1, none⟩ = some (.slice ac1 d.2.length cc1) ∧ V.cell? ⟨w.heap.size + 1, 0, none⟩ = some (.int .i64 f) ∧ V.cell? ⟨w.heap.size + 1, 1, none⟩ = some (.int .i64 b) ∧ V.cell? ⟨w.heap.size, 0, none⟩ = some (.slice ab d.1.length cb) ∧ V.cell? ⟨w.heap.size, 1, none⟩ = some (.slice ac d.2.length cc))
      (first | exact ⟨s0_0, s0_1, s0_2, s0_3, s0_4, s0_5, s0_6, s0_7, s0_8, s0_9⟩ | exact ⟨s1_0, s1_1, s1_2, s1_3, s1_4, s1_5, s1_6, s1_7, s1_8, s1_9⟩ | exact ⟨s2_0, s2_1, s2_2, s2_3, s2_4, s2_5, s2_6, s2_7, s2_8, s2_9⟩ | exact ⟨s3_0, s3_1, s3_2, s3_3, s3_4, s3_5, s3_6, s3_7, s3_8, s3_9⟩ | exact ⟨s4_0, s4_1, s4_2, s4_3, s4_4, s4_5, s4_6, s4_7, s4_8, s4_9⟩ | exact ⟨s5_0, s5_1, s5_2, s5_3, s5_4, s5_5, s5_6, s5_7, s5_8, s5_9⟩ | go_keep)
      (first
      | (go_at_call 17; refine (HSY.out _ _ _ _ (by first | exact ⟨hfg.out.1.drew, hfg.out.2.drew, HLU.out⟩ | exact ⟨E3.out.1, E3.out.2, HLD.out⟩)).mono ?_; rintro e yy ⟨rfl, cz⟩
         first
         | (have s1_0 := cell_below cz (show W0.drew.cell? _ = _ from s0_0)
            have s1_1 := cell_below cz (show W0.drew.cell? _ = _ from s0_1)
            have s1_2 := cell_below cz (show W0.drew.cell? _ = _ from s0_2)
            have s1_3 := cell_below cz (show W0.drew.cell? _ = _ from s0_3)
            have s1_4 := cell_below cz (show W0.drew.cell? _ = _ from s0_4)
            have s1_5 := cell_below cz (show W0.drew.cell? _ = _ from s0_5)
            have s1_6 := cell_below cz (show W0.drew.cell? _ = _ from s0_6)
            have s1_7 := cell_below cz (show W0.drew.cell? _ = _ from s0_7)
            have s1_8 := cell_below cz (show W0.drew.cell? _ = _ from s0_8)
            have s1_9 := cell_below cz (show W0.drew.cell? _ = _ from s0_9)
            have B1 := Lib.hid (B0.out.drew.trans ((show Below W0.drew.heap.size W0.drew yy from cz).mono B0.out.size))
            have E1 := Lib.hid (And.intro (hed.out.1.drew.below cz) (hed.out.2.drew.below cz)))
         | (have s4_0 := cell_below cz s3_0
            have s4_1 := cell_below cz s3_1
            have s4_2 := cell_below cz s3_2
            have s4_3 := cell_below cz s3_3
            have s4_4 := cell_below cz s3_4
            have s4_5 := cell_below cz s3_5
            have s4_6 := cell_below cz s3_6
            have s4_7 := cell_below cz s3_7
            have s4_8 := cell_below cz s3_8
            have s4_9 := cell_below cz s3_9
            have B4 := Lib.hid (B3.out.trans (cz.mono B3.out.size))
            have E4 := Lib.hid (And.intro (E3.out.1.below cz) (E3.out.2.below cz))))
      | (go_at_call 18; refine (HC.out _ _ E1.out.1).mono ?_; rintro e y2 ⟨rfl, c2⟩
         have s2_0 := cell_below c2 s1_0
         have s2_1 := cell_below c2 s1_1
         have s2_2 := cell_below c2 s1_2
         have s2_3 := cell_below c2 s1_3
         have s2_4 := cell_below c2 s1_4
         have s2_5 := cell_below c2 s1_5
         have s2_6 := cell_below c2 s1_6
         have s2_7 := cell_below c2 s1_7
         have s2_8 := cell_below c2 s1_8
         have s2_9 := cell_below c2 s1_9
         have B2 := Lib.hid (B1.out.trans (c2.mono B1.out.size))
         have E2 := Lib.hid (And.intro (E1.out.1.below c2) (E1.out.2.below c2)))
      | (go_at_call 19; refine (HRC.out _ _ E2.out.2).mono ?_; rintro e y3 ⟨rfl, c3⟩
         have s3_0 := cell_below c3 s2_0
         have s3_1 := cell_below c3 s2_1
         have s3_2 := cell_below c3 s2_2
         have s3_3 := cell_below c3 s2_3
         have s3_4 := cell_below c3 s2_4
         have s3_5 := cell_below c3 s2_5
         have s3_6 := cell_below c3 s2_6
         have s3_7 := cell_below c3 s2_7
         have s3_8 := cell_below c3 s2_8
         have s3_9 := cell_below c3 s2_9
         have B3 := Lib.hid (B2.out.trans (c3.mono B2.out.size))
         have E3 := Lib.hid (And.intro (E2.out.1.below c3) (E2.out.2.below c3)))
      | (go_at_call 11; refine (HA.out _ (hT.out.below B4.out)).mono ?_; rintro e y5 ⟨rfl, c5⟩
         have s5_0 := cell_below c5 s4_0
         have s5_1 := cell_below c5 s4_1
         have s5_2 := cell_below c5 s4_2
         have s5_3 := cell_below c5 s4_3
         have s5_4 := cell_below c5 s4_4
         have s5_5 := cell_below c5 s4_5
         have s5_6 := cell_below c5 s4_6
         have s5_7 := cell_below c5 s4_7
         have s5_8 := cell_below c5 s4_8
         have s5_9 := cell_below c5 s4_9
         have B5 := Lib.hid (B4.out.trans (c5.mono B4.out.size))
         have E5 := Lib.hid (And.intro (E4.out.1.below c5) (E4.out.2.below c5))))
    go_wp2
    go_ret
    exact ⟨rfl, B5.out⟩
end Go.Proofs.YthhghggaoljcbaaDoor
