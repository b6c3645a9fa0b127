/- The walk of SnapRecovers, chapter 13 (snap). -/
import Derived.Test.YtmfbkelhegdmpaaGreatDoorSnLaws
import Derived.Test.YtmfbkelhegdmpaaGreatDoorSnLawQ
import Derived.Test.YtmfbkelhegdmpaaGreatDoorSnapT
namespace Go.Proofs.YtmfbkelhegdmpaaGreatDoor
open Go.RowKit Disk11 Journal12 Sum2

set_option maxHeartbeats 8000000 in
set_option maxRecDepth 100000 in
theorem SnapRecovers_any (d : Dev) (v : Value) (w : World) (h : DiskIs w d v) (ht : Tab w) :
    Calls Tryz.prog 4 #[v] w fun e w' => e = .returned (.bool true) ∧ Below w.heap.size w w' := by
  have HL := Lib.hid (fun v W h => LightDisk_any d v 24 40 W h (by decide) (by decide))
  have HA := Lib.hid (fun W t => awake_any13 W t)
  have hT := Lib.hid ht
  obtain ⟨q, hq⟩ : ∃ q, q = light d 24 40 := ⟨_, rfl⟩
  rw [← hq] at HL
  obtain ⟨ab, cb, ac, cc, rfl, _, _, _, _⟩ := h.form
  have t0 := Go.Joins.below_alloc1 w (.cells #[.slice ab d.1.length cb, .slice ac d.2.length cc] 29)
  have D_0 := World.alloc_heap_new w (.cells #[.slice ab d.1.length cb, .slice ac d.2.length cc] 29)
  have d_0 := h.below t0
  clear h ht
  go_enter Tryz.func4, Tryz.ntmps4
  go_upto_region 1 with (fail)
  generalize w.alloc (.cells #[.slice ab d.1.length cb, .slice ac d.2.length cc] 29) = W0 at *
  have Dx0 := cell2_0 D_0
  have Dx1 := cell2_1 D_0
  go_wp2_with fail
  refine (HL.out _ _ d_0).mono ?_
  rintro e w1 ⟨rfl, b1⟩
  clear Dx0 Dx1
  have D_1 := heap_below D_0 b1
  have d_1 := d_0.below b1
  have t1 := t0.trans (b1.mono t0.size)
  clear D_0 d_0 t0 b1
  cases q
  case false =>
    clear hq
    go_wp2_with fail
    refine (HA.out _ (hT.out.below t1)).mono ?_
    rintro e w2 ⟨rfl, b2⟩
    go_wp2
    go_ret
    exact ⟨rfl, t1.trans (b2.mono t1.size)⟩
  obtain ⟨l1, l2, _, _⟩ := (light_iff d 24 40).1 hq.symm
  clear hq
  have hcl := recover_len d
  have HO := Lib.hid (fun v W h => OwnDisk_is d v W h (by omega) (by omega))
  obtain ⟨R, hR⟩ : ∃ R, R = recoverS d := ⟨_, rfl⟩
  obtain ⟨C, X, L, ⟨g, p⟩, k⟩ := R
  rw [← hR] at hcl
  dsimp only at hcl
  have HR := Lib.hid (fun v W h t => (Recover_any13 d v W h t).mono (fun _ _ => rec_open hR.symm))
  have HRR := Lib.hid (fun v W h => (RRecover_any13 d v W h).mono (fun _ _ => rec_open hR.symm))
  have HSC := Lib.hid (fun v1 v2 W (h1 : DiskIs W C v1) (h2 : DiskIs W C v2) => SameDisk_same C v1 v2 W h1 h2 (by omega) (by omega))
  have HSD := Lib.hid (fun v1 v2 W (h1 : DiskIs W d v1) (h2 : DiskIs W d v2) => SameDisk_same d v1 v2 W h1 h2 (by omega) (by omega))
  have HT := Lib.hid (fun va vb W ha hb => SameTexts_any L L va vb W ha hb (by omega))
  rw [decide_eq_true rfl] at HT
  have he := eq_log_same (g : Int) p
  have hxl : (X == X) = true := beq_self_eq_true _
  clear hR hcl l1 l2 HL
  have Dx0 := cell2_0 D_1
  have Dx1 := cell2_1 D_1
  go_wp2_with fail
  refine (HO.out _ _ d_1).mono ?_
  rintro e w2 ⟨ab2, cb2, ac2, cc2, rfl, h_r, b2⟩
  have a2 := Go.Joins.below_alloc1 w2 (.cells #[.slice ab2 d.1.length cb2, .slice ac2 d.2.length cc2] 29)
  have H_2 := World.alloc_heap_new w2 (.cells #[.slice ab2 d.1.length cb2, .slice ac2 d.2.length cc2] 29)
  have c2 := b2.trans (a2.mono b2.size)
  have D_2 := heap_below D_1 c2
  have d_2 := d_1.below c2
  have t2 := t1.trans (c2.mono t1.size)
  have h_2 := h_r.below a2
  clear Dx0 Dx1 D_1 d_1 t1 h_r a2 b2 c2
  go_upto_region 4 with (fail)
  generalize (World.alloc w2 (.cells #[.slice ab2 d.1.length cb2, .slice ac2 d.2.length cc2] 29)) = W2 at *
  have Hx0 := cell2_0 H_2
  have Hx1 := cell2_1 H_2
  go_wp2_with fail
  refine (HR.out _ _ h_2 (hT.out.below t2)).mono ?_
  rintro e w3 ⟨ab3, cb3, ac3, cc3, al3, cl3, rfl, e_r, l_r, b3⟩
  obtain ⟨E_3, Y_3, _, a3⟩ := alloc2 w3 (.cells #[.slice ab3 C.1.length cb3, .slice ac3 C.2.length cc3] 29) (.cells #[.int .u64 (g : Int), .int .i64 p] 32)
  have c3 := b3.trans (a3.mono b3.size)
  have D_3 := heap_below D_2 c3
  have d_3 := d_2.below c3
  have H_3 := heap_below H_2 c3
  have h_3 := h_2.below c3
  have t3 := t2.trans (c3.mono t2.size)
  have e_3 := e_r.below a3
  have l_3 := l_r.below a3
  clear Hx0 Hx1 D_2 d_2 H_2 h_2 t2 e_r l_r a3 b3 c3
  go_upto_region 5 with (fail)
  generalize (World.alloc (World.alloc w3 (.cells #[.slice ab3 C.1.length cb3, .slice ac3 C.2.length cc3] 29)) (.cells #[.int .u64 (g : Int), .int .i64 p] 32)) = W3 at *
  have Dx0 := cell2_0 D_3
  have Dx1 := cell2_1 D_3
  go_wp2_with fail
  refine (HRR.out _ _ d_3).mono ?_
  rintro e w4 ⟨ab4, cb4, ac4, cc4, al4, cl4, rfl, f_r, m_r, b4⟩
  obtain ⟨F_4, Z_4, _, a4⟩ := alloc2 w4 (.cells #[.slice ab4 C.1.length cb4, .slice ac4 C.2.length cc4] 29) (.cells #[.int .u64 (g : Int), .int .i64 p] 32)
  have c4 := b4.trans (a4.mono b4.size)
  have D_4 := heap_below D_3 c4
  have d_4 := d_3.below c4
  have H_4 := heap_below H_3 c4
  have h_4 := h_3.below c4
  have E_4 := heap_below E_3 c4
  have Y_4 := heap_below Y_3 c4
  have e_4 := e_3.below c4
  have l_4 := l_3.below c4
  have t4 := t3.trans (c4.mono t3.size)
  have f_4 := f_r.below a4
  have m_4 := m_r.below a4
  clear Dx0 Dx1 D_3 d_3 H_3 h_3 E_3 Y_3 e_3 l_3 t3 f_r m_r a4 b4 c4
  go_upto_region 6 with (fail)
  generalize (World.alloc (World.alloc w4 (.cells #[.slice ab4 C.1.length cb4, .slice ac4 C.2.length cc4] 29)) (.cells #[.int .u64 (g : Int), .int .i64 p] 32)) = W4 at *
  have Ex0 := cell2_0 E_4
  have Ex1 := cell2_1 E_4
  have Fx0 := cell2_0 F_4
  have Fx1 := cell2_1 F_4
  go_wp2_with fail
  refine (HSC.out _ _ _ e_4 f_4).mono ?_
  rintro e w5 ⟨rfl, b5⟩
  have D_5 := heap_below D_4 b5
  have d_5 := d_4.below b5
  have H_5 := heap_below H_4 b5
  have h_5 := h_4.below b5
  have E_5 := heap_below E_4 b5
  have Y_5 := heap_below Y_4 b5
  have e_5 := e_4.below b5
  have l_5 := l_4.below b5
  have F_5 := heap_below F_4 b5
  have Z_5 := heap_below Z_4 b5
  have f_5 := f_4.below b5
  have m_5 := m_4.below b5
  have t5 := t4.trans (b5.mono t4.size)
  clear Ex0 Ex1 Fx0 Fx1 D_4 d_4 H_4 h_4 E_4 Y_4 e_4 l_4 F_4 Z_4 f_4 m_4 t4 b5
  go_wp2_with fail
  refine (HT.out _ _ _ l_5 m_5).mono ?_
  rintro e w6 ⟨rfl, b6⟩
  have D_6 := heap_below D_5 b6
  have d_6 := d_5.below b6
  have H_6 := heap_below H_5 b6
  have h_6 := h_5.below b6
  have E_6 := heap_below E_5 b6
  have Y_6 := heap_below Y_5 b6
  have e_6 := e_5.below b6
  have l_6 := l_5.below b6
  have F_6 := heap_below F_5 b6
  have Z_6 := heap_below Z_5 b6
  have f_6 := f_5.below b6
  have m_6 := m_5.below b6
  have t6 := t5.trans (b6.mono t5.size)
  clear D_5 d_5 H_5 h_5 E_5 Y_5 e_5 l_5 F_5 Z_5 f_5 m_5 t5 b6
  have Yx0 := cell2_0 Y_6
  have Yx1 := cell2_1 Y_6
  have Zx0 := cell2_0 Z_6
  have Zx1 := cell2_1 Z_6
  have Hx0 := cell2_0 H_6
  have Hx1 := cell2_1 H_6
  have Dx0 := cell2_0 D_6
  have Dx1 := cell2_1 D_6
  go_wp2_with fail
  refine (HSD.out _ _ _ h_6 d_6).mono ?_
  rintro e w7 ⟨rfl, b7⟩
  have D_7 := heap_below D_6 b7
  have d_7 := d_6.below b7
  have H_7 := heap_below H_6 b7
  have h_7 := h_6.below b7
  have E_7 := heap_below E_6 b7
  have Y_7 := heap_below Y_6 b7
  have e_7 := e_6.below b7
  have l_7 := l_6.below b7
  have F_7 := heap_below F_6 b7
  have Z_7 := heap_below Z_6 b7
  have f_7 := f_6.below b7
  have m_7 := m_6.below b7
  have t7 := t6.trans (b7.mono t6.size)
  clear Yx0 Yx1 Zx0 Zx1 Hx0 Hx1 Dx0 Dx1 D_6 d_6 H_6 h_6 E_6 Y_6 e_6 l_6 F_6 Z_6 f_6 m_6 t6 b7
  go_wp2_with fail
  refine (HA.out _ (hT.out.below t7)).mono ?_
  rintro e w8 ⟨rfl, b8⟩
  have D_8 := heap_below D_7 b8
  have d_8 := d_7.below b8
  have H_8 := heap_below H_7 b8
  have h_8 := h_7.below b8
  have E_8 := heap_below E_7 b8
  have Y_8 := heap_below Y_7 b8
  have e_8 := e_7.below b8
  have l_8 := l_7.below b8
  have F_8 := heap_below F_7 b8
  have Z_8 := heap_below Z_7 b8
  have f_8 := f_7.below b8
  have m_8 := m_7.below b8
  have t8 := t7.trans (b8.mono t7.size)
  clear D_7 d_7 H_7 h_7 E_7 Y_7 e_7 l_7 F_7 Z_7 f_7 m_7 t7 b8
  go_wp2
  go_ret
  exact ⟨rfl, t8⟩
end Go.Proofs.YtmfbkelhegdmpaaGreatDoor
