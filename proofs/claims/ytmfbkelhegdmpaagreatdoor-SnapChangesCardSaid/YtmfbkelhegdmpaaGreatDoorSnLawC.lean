/- The walk of SnapChanges, chapter 13 (snap). -/
import Derived.Test.YtmfbkelhegdmpaaGreatDoorSnLaws
import Derived.Test.YtmfbkelhegdmpaaGreatDoorSnLawQ
import Derived.Test.YtmfbkelhegdmpaaGreatDoorSnapN
import Derived.Test.YtmfbkelhegdmpaaGreatDoorSnapR
import Derived.Test.YtmfbkelhegdmpaaGreatDoorSnapS
import Derived.Test.YtmfbkelhegdmpaaGreatDoorSnapIU
namespace Go.Proofs.YtmfbkelhegdmpaaGreatDoor
open Go.RowKit Disk11 Journal12 Sum2

set_option maxHeartbeats 8000000 in
set_option maxRecDepth 100000 in
theorem SnapChanges_any (d : Dev) (v : Value) (g0 : Nat) (p0 : Int) (x : List UInt8) (w : World) (hg64 : g0 < 18446744073709551616) (h : DiskIs w d v) (ht : Tab w) (hx : x.length ≤ 140737488351232) :
    Calls Tryz.prog 5 #[v, .agg #[.int .u64 (g0 : Int), .int .i64 p0], .string ⟨x.toArray⟩] w fun e w' => e = .returned (.bool true) ∧ Below w.heap.size w w' := by
  have HL := Lib.hid (fun v W h => LightDisk_any d v 24 40 W h (by decide) (by decide))
  have HA := Lib.hid (fun W t => awake_any13 W t)
  have hT := Lib.hid ht
  have z2 : (⟨x.toArray⟩ : ByteArray).size = x.length := rfl
  obtain ⟨q, hq⟩ : ∃ q, q = light d 24 40 := ⟨_, rfl⟩
  rw [← hq] at HL
  obtain ⟨p3, h3⟩ : ∃ q, decide (5000 < x.length) = q := ⟨_, rfl⟩
  have h3' : decide ((5000 : Int) < (x.length : Int)) = p3 := by rw [← h3]; simp; omega
  have hp3 : p3 = false → x.length ≤ 5000 := fun e => by rw [e] at h3; simpa using h3
  have HP3 := Lib.hid hp3
  have HQ := Lib.hid hq
  obtain ⟨ab, cb, ac, cc, rfl, _, _, _, _⟩ := h.form
  obtain ⟨D_0, G_0, hsz0, t0⟩ := alloc2 w (.cells #[.slice ab d.1.length cb, .slice ac d.2.length cc] 29) (.cells #[.int .u64 (g0 : Int), .int .i64 p0] 32)
  have d_0 := h.below t0
  clear h ht hp3 hq hsz0
  go_enter Tryz.func5, Tryz.ntmps5
  go_upto_region 1 with (fail)
  generalize (w.alloc (.cells #[.slice ab d.1.length cb, .slice ac d.2.length cc] 29)).alloc (.cells #[.int .u64 (g0 : Int), .int .i64 p0] 32) = W0 at *
  have t0' := Lib.hid t0
  go_cut [23] from 16 to 23 (fun u W => u = .bool (!q || p3) ∧ Below W0.heap.size W0 W)
  case first =>
    have Dx0 := cell2_0 D_0
    have Dx1 := cell2_1 D_0
    clear HP3 HQ D_0 G_0 t0
    go_wp2_with fail
    refine (HL.out _ _ d_0).mono ?_
    rintro e w1 ⟨rfl, b1⟩
    cases q <;> cases p3 <;> go_wp2_with fail
    all_goals
      go_meet
      exact ⟨rfl, b1⟩
  case rest =>
  obtain ⟨rfl, b1⟩ := hcut
  obtain ⟨w1, hw⟩ : ∃ w, w = wc := ⟨_, rfl⟩
  subst hw
  have D_1 := heap_below D_0 b1
  have G_1 := heap_below G_0 b1
  have d_1 := d_0.below b1
  have t1 := t0.trans (b1.mono t0.size)
  obtain ⟨B, hBe⟩ : ∃ B, B = (!q || p3) := ⟨_, rfl⟩
  rw [← hBe]
  have hB' := Lib.hid hBe
  clear hBe h3 h3' D_0 G_0 d_0 t0 t0' b1 HL
  cases B
  case true =>
    go_wp2_with fail
    refine (HA.out _ (hT.out.below t1)).mono ?_
    rintro e w2 ⟨rfl, b2⟩
    go_wp2
    go_ret
    exact ⟨rfl, t1.trans (b2.mono t1.size)⟩
  have hx5 : x.length ≤ 5000 := HP3.out (by have h := hB'.out; cases p3; rfl; rw [Bool.or_true] at h; cases h)
  have hqt : q = true := by have h := hB'.out; cases q; cases h; rfl
  obtain ⟨l1, l2, _, _⟩ := (light_iff d 24 40).1 (HQ.out.symm.trans hqt)
  have HO := Lib.hid (fun v W h => OwnDisk_is d v W h (by omega) (by omega))
  have hca := append_len d (g0, p0) x
  have hcc := compact_len d (g0, p0) x
  obtain ⟨R, hR⟩ : ∃ R, R = appendS d (g0, p0) x := ⟨_, rfl⟩
  obtain ⟨C, ⟨g1, p1⟩, k1⟩ := R
  rw [← hR] at hca
  obtain ⟨R2, hR2⟩ : ∃ R, R = compactS d (g0, p0) x := ⟨_, rfl⟩
  obtain ⟨E, ⟨g2, p2⟩, k2⟩ := R2
  rw [← hR2] at hcc
  dsimp only at hca hcc
  have HAp := Lib.hid (fun v W h t => (Append_any13 d v g0 p0 x W hg64 (by omega) h t).mono (fun _ _ => snap_open hR.symm))
  have HRA := Lib.hid (fun v W h => (RAppend_any13 d v g0 p0 x W hg64 (by omega) h).mono (fun _ _ => snap_open hR.symm))
  have HCo := Lib.hid (fun v W h t => (Compact_any13 d v g0 p0 x W hg64 (by omega) h t).mono (fun _ _ => snap_open hR2.symm))
  have HRC := Lib.hid (fun v W h => (RCompact_any13 d v g0 p0 x W hg64 (by omega) h).mono (fun _ _ => snap_open hR2.symm))
  have HRo := Lib.hid (fun v W h => Room_any13 d v g0 p0 W hg64 h)
  have HRR := Lib.hid (fun v W h => RRoom_any13 d v g0 p0 W hg64 h)
  generalize roomS d (g0, p0) = rr at HRo HRR
  obtain ⟨rn, re⟩ := rr
  have HSC := Lib.hid (fun v1 v2 W (h1 : DiskIs W C v1) (h2 : DiskIs W C v2) => SameDisk_same C v1 v2 W h1 h2 (by omega) (by omega))
  have HSE := Lib.hid (fun v1 v2 W (h1 : DiskIs W E v1) (h2 : DiskIs W E v2) => SameDisk_same E v1 v2 W h1 h2 (by omega) (by omega))
  have HSD := Lib.hid (fun v1 v2 W (h1 : DiskIs W d v1) (h2 : DiskIs W d v2) => SameDisk_same d v1 v2 W h1 h2 (by omega) (by omega))
  have he1 := neq_log_same (g1 : Int) p1
  have he2 := neq_log_same (g2 : Int) p2
  clear hR hR2 hca hcc l1 l2 hB' HP3 HQ hqt
  have Dx0 := cell2_0 D_1
  have Dx1 := cell2_1 D_1
  go_wp2_with fail
  refine (HO.out _ _ d_1).mono ?_
  rintro e w2 ⟨ab2, cb2, ac2, cc2, rfl, h_r, b2⟩
  have ltD2 : w.heap.size < w2.heap.size := (Array.getElem?_eq_some_iff.1 (heap_below D_1 b2)).1
  have ltG2 : w.heap.size + 1 < w2.heap.size := (Array.getElem?_eq_some_iff.1 (heap_below G_1 b2)).1
  have a2 := Go.Joins.below_alloc1 w2 (.cells #[.slice ab2 d.1.length cb2, .slice ac2 d.2.length cc2] 29)
  have H_2 := World.alloc_heap_new w2 (.cells #[.slice ab2 d.1.length cb2, .slice ac2 d.2.length cc2] 29)
  have c2 := b2.trans (a2.mono b2.size)
  have D_2 := heap_below D_1 c2
  have G_2 := heap_below G_1 c2
  have d_2 := d_1.below c2
  have t2 := t1.trans (c2.mono t1.size)
  have h_2 := h_r.below a2
  clear Dx0 Dx1 D_1 G_1 d_1 t1 h_r a2 b2 c2
  go_upto_region 4 with (fail)
  generalize (World.alloc w2 (.cells #[.slice ab2 d.1.length cb2, .slice ac2 d.2.length cc2] 29)) = W2 at *
  have Hx0 := cell2_0 H_2
  have Hx1 := cell2_1 H_2
  have Gx0 := cell2_0 G_2
  have Gx1 := cell2_1 G_2
  go_wp2_with fail
  refine (HAp.out _ _ h_2 (hT.out.below t2)).mono ?_
  rintro e w3 ⟨ab3, cb3, ac3, cc3, rfl, e_r, b3⟩
  have ltD3 : w.heap.size < w3.heap.size := (Array.getElem?_eq_some_iff.1 (heap_below D_2 b3)).1
  have ltG3 : w.heap.size + 1 < w3.heap.size := (Array.getElem?_eq_some_iff.1 (heap_below G_2 b3)).1
  have ltH3 : w2.heap.size < w3.heap.size := (Array.getElem?_eq_some_iff.1 (heap_below H_2 b3)).1
  obtain ⟨E_3, X_3, _, a3⟩ := alloc2 w3 (.cells #[.slice ab3 C.1.length cb3, .slice ac3 C.2.length cc3] 29) (.cells #[.int .u64 (g1 : Int), .int .i64 p1] 32)
  have c3 := b3.trans (a3.mono b3.size)
  have D_3 := heap_below D_2 c3
  have G_3 := heap_below G_2 c3
  have d_3 := d_2.below c3
  have H_3 := heap_below H_2 c3
  have h_3 := h_2.below c3
  have t3 := t2.trans (c3.mono t2.size)
  have e_3 := e_r.below a3
  clear Hx0 Hx1 Gx0 Gx1 D_2 G_2 d_2 H_2 h_2 t2 e_r a3 b3 c3
  go_upto_region 5 with (fail)
  generalize (World.alloc (World.alloc w3 (.cells #[.slice ab3 C.1.length cb3, .slice ac3 C.2.length cc3] 29)) (.cells #[.int .u64 (g1 : Int), .int .i64 p1] 32)) = W3 at *
  have Dx0 := cell2_0 D_3
  have Dx1 := cell2_1 D_3
  have Gx0 := cell2_0 G_3
  have Gx1 := cell2_1 G_3
  go_wp2_with fail
  refine (HRA.out _ _ d_3).mono ?_
  rintro e w4 ⟨ab4, cb4, ac4, cc4, rfl, f_r, b4⟩
  have ltD4 : w.heap.size < w4.heap.size := (Array.getElem?_eq_some_iff.1 (heap_below D_3 b4)).1
  have ltG4 : w.heap.size + 1 < w4.heap.size := (Array.getElem?_eq_some_iff.1 (heap_below G_3 b4)).1
  have ltH4 : w2.heap.size < w4.heap.size := (Array.getElem?_eq_some_iff.1 (heap_below H_3 b4)).1
  have ltE4 : w3.heap.size < w4.heap.size := (Array.getElem?_eq_some_iff.1 (heap_below E_3 b4)).1
  have ltX4 : w3.heap.size + 1 < w4.heap.size := (Array.getElem?_eq_some_iff.1 (heap_below X_3 b4)).1
  obtain ⟨F_4, Y_4, _, a4⟩ := alloc2 w4 (.cells #[.slice ab4 C.1.length cb4, .slice ac4 C.2.length cc4] 29) (.cells #[.int .u64 (g1 : Int), .int .i64 p1] 32)
  have c4 := b4.trans (a4.mono b4.size)
  have D_4 := heap_below D_3 c4
  have G_4 := heap_below G_3 c4
  have d_4 := d_3.below c4
  have H_4 := heap_below H_3 c4
  have h_4 := h_3.below c4
  have E_4 := heap_below E_3 c4
  have X_4 := heap_below X_3 c4
  have e_4 := e_3.below c4
  have t4 := t3.trans (c4.mono t3.size)
  have f_4 := f_r.below a4
  clear Dx0 Dx1 Gx0 Gx1 D_3 G_3 d_3 H_3 h_3 E_3 X_3 e_3 t3 f_r a4 b4 c4
  go_upto_region 6 with (fail)
  generalize (World.alloc (World.alloc w4 (.cells #[.slice ab4 C.1.length cb4, .slice ac4 C.2.length cc4] 29)) (.cells #[.int .u64 (g1 : Int), .int .i64 p1] 32)) = W4 at *
  have Ex0 := cell2_0 E_4
  have Ex1 := cell2_1 E_4
  have Fx0 := cell2_0 F_4
  have Fx1 := cell2_1 F_4
  have Xx0 := cell2_0 X_4
  have Xx1 := cell2_1 X_4
  have Yx0 := cell2_0 Y_4
  have Yx1 := cell2_1 Y_4
  go_wp2_with fail
  refine (HSC.out _ _ _ e_4 f_4).mono ?_
  rintro e w5 ⟨rfl, b5⟩
  have D_5 := heap_below D_4 b5
  have G_5 := heap_below G_4 b5
  have d_5 := d_4.below b5
  have H_5 := heap_below H_4 b5
  have h_5 := h_4.below b5
  have E_5 := heap_below E_4 b5
  have X_5 := heap_below X_4 b5
  have e_5 := e_4.below b5
  have F_5 := heap_below F_4 b5
  have Y_5 := heap_below Y_4 b5
  have f_5 := f_4.below b5
  have t5 := t4.trans (b5.mono t4.size)
  clear Ex0 Ex1 Fx0 Fx1 Xx0 Xx1 Yx0 Yx1 D_4 G_4 d_4 H_4 h_4 E_4 X_4 e_4 F_4 Y_4 f_4 t4 b5
  have Xx0 := cell2_0 X_5
  have Xx1 := cell2_1 X_5
  have Yx0 := cell2_0 Y_5
  have Yx1 := cell2_1 Y_5
  have Hx0 := cell2_0 H_5
  have Hx1 := cell2_1 H_5
  have Gx0 := cell2_0 G_5
  have Gx1 := cell2_1 G_5
  go_wp2_with fail
  refine (HCo.out _ _ h_5 (hT.out.below t5)).mono ?_
  rintro e w6 ⟨ab6, cb6, ac6, cc6, rfl, e_r, b6⟩
  clear Xx0 Xx1 Yx0 Yx1 Hx0 Hx1 Gx0 Gx1
  have D_q := heap_below D_5 b6
  have G_q := heap_below G_5 b6
  have d_q := d_5.below b6
  have H_q := heap_below H_5 b6
  have h_q := h_5.below b6
  have E_q := heap_below E_5 b6
  have X_q := heap_below X_5 b6
  have F_q := heap_below F_5 b6
  have Y_q := heap_below Y_5 b6
  have f_q := f_5.below b6
  have tq := t5.trans (b6.mono t5.size)
  have EN := no_str E_q (by simp)
  have Ec0 := cell2_0 E_q
  have Ez0 := frozen2 E_q 0
  have Ec1 := cell2_1 E_q
  have Ez1 := frozen2 E_q 1
  have XN := no_str X_q (by simp)
  have Xc0 := cell2_0 X_q
  have Xz0 := frozen2 X_q 0
  have Xc1 := cell2_1 X_q
  have Xz1 := frozen2 X_q 1
  go_upto_region 9 with (fail)
  have D_6 := other_set (j := 1) (other_set (j := 0) (other_set (j := 1) (other_set (j := 0) (D_q) (show w.heap.size ≠ w3.heap.size by omega) (.slice ab6 E.1.length cb6)) (show w.heap.size ≠ w3.heap.size by omega) (.slice ac6 E.2.length cc6)) (show w.heap.size ≠ w3.heap.size + 1 by omega) (.int .u64 (g2 : Int))) (show w.heap.size ≠ w3.heap.size + 1 by omega) (.int .i64 p2)
  have G_6 := other_set (j := 1) (other_set (j := 0) (other_set (j := 1) (other_set (j := 0) (G_q) (show w.heap.size + 1 ≠ w3.heap.size by omega) (.slice ab6 E.1.length cb6)) (show w.heap.size + 1 ≠ w3.heap.size by omega) (.slice ac6 E.2.length cc6)) (show w.heap.size + 1 ≠ w3.heap.size + 1 by omega) (.int .u64 (g2 : Int))) (show w.heap.size + 1 ≠ w3.heap.size + 1 by omega) (.int .i64 p2)
  have d_6 := disk_aside (j := 1) (u := (.int .i64 p2)) (disk_aside (j := 0) (u := (.int .u64 (g2 : Int))) (disk_aside (j := 1) (u := (.slice ac6 E.2.length cc6)) (disk_aside (j := 0) (u := (.slice ab6 E.1.length cb6)) (d_q) (EN)) (nostr_set (g := w3.heap.size) (j := 0) (u := (.slice ab6 E.1.length cb6)) (EN) (by simp))) (nostr_set (g := w3.heap.size) (j := 1) (u := (.slice ac6 E.2.length cc6)) (nostr_set (g := w3.heap.size) (j := 0) (u := (.slice ab6 E.1.length cb6)) (XN) (by simp)) (by simp))) (nostr_set (g := w3.heap.size + 1) (j := 0) (u := (.int .u64 (g2 : Int))) (nostr_set (g := w3.heap.size) (j := 1) (u := (.slice ac6 E.2.length cc6)) (nostr_set (g := w3.heap.size) (j := 0) (u := (.slice ab6 E.1.length cb6)) (XN) (by simp)) (by simp)) (by simp))
  have H_6 := other_set (j := 1) (other_set (j := 0) (other_set (j := 1) (other_set (j := 0) (H_q) (show w2.heap.size ≠ w3.heap.size by omega) (.slice ab6 E.1.length cb6)) (show w2.heap.size ≠ w3.heap.size by omega) (.slice ac6 E.2.length cc6)) (show w2.heap.size ≠ w3.heap.size + 1 by omega) (.int .u64 (g2 : Int))) (show w2.heap.size ≠ w3.heap.size + 1 by omega) (.int .i64 p2)
  have h_6 := disk_aside (j := 1) (u := (.int .i64 p2)) (disk_aside (j := 0) (u := (.int .u64 (g2 : Int))) (disk_aside (j := 1) (u := (.slice ac6 E.2.length cc6)) (disk_aside (j := 0) (u := (.slice ab6 E.1.length cb6)) (h_q) (EN)) (nostr_set (g := w3.heap.size) (j := 0) (u := (.slice ab6 E.1.length cb6)) (EN) (by simp))) (nostr_set (g := w3.heap.size) (j := 1) (u := (.slice ac6 E.2.length cc6)) (nostr_set (g := w3.heap.size) (j := 0) (u := (.slice ab6 E.1.length cb6)) (XN) (by simp)) (by simp))) (nostr_set (g := w3.heap.size + 1) (j := 0) (u := (.int .u64 (g2 : Int))) (nostr_set (g := w3.heap.size) (j := 1) (u := (.slice ac6 E.2.length cc6)) (nostr_set (g := w3.heap.size) (j := 0) (u := (.slice ab6 E.1.length cb6)) (XN) (by simp)) (by simp)) (by simp))
  have E_6 := other_set (j := 1) (other_set (j := 0) (set_two (x' := (.slice ab6 E.1.length cb6)) (y' := (.slice ac6 E.2.length cc6)) (E_q)) (show w3.heap.size ≠ w3.heap.size + 1 by omega) (.int .u64 (g2 : Int))) (show w3.heap.size ≠ w3.heap.size + 1 by omega) (.int .i64 p2)
  have X_6 := set_two (x' := (.int .u64 (g2 : Int))) (y' := (.int .i64 p2)) (other_set (j := 1) (other_set (j := 0) (X_q) (show w3.heap.size + 1 ≠ w3.heap.size by omega) (.slice ab6 E.1.length cb6)) (show w3.heap.size + 1 ≠ w3.heap.size by omega) (.slice ac6 E.2.length cc6))
  have e_6 := disk_aside (j := 1) (u := (.int .i64 p2)) (disk_aside (j := 0) (u := (.int .u64 (g2 : Int))) (disk_aside (j := 1) (u := (.slice ac6 E.2.length cc6)) (disk_aside (j := 0) (u := (.slice ab6 E.1.length cb6)) (e_r) (EN)) (nostr_set (g := w3.heap.size) (j := 0) (u := (.slice ab6 E.1.length cb6)) (EN) (by simp))) (nostr_set (g := w3.heap.size) (j := 1) (u := (.slice ac6 E.2.length cc6)) (nostr_set (g := w3.heap.size) (j := 0) (u := (.slice ab6 E.1.length cb6)) (XN) (by simp)) (by simp))) (nostr_set (g := w3.heap.size + 1) (j := 0) (u := (.int .u64 (g2 : Int))) (nostr_set (g := w3.heap.size) (j := 1) (u := (.slice ac6 E.2.length cc6)) (nostr_set (g := w3.heap.size) (j := 0) (u := (.slice ab6 E.1.length cb6)) (XN) (by simp)) (by simp)) (by simp))
  have F_6 := other_set (j := 1) (other_set (j := 0) (other_set (j := 1) (other_set (j := 0) (F_q) (show w4.heap.size ≠ w3.heap.size by omega) (.slice ab6 E.1.length cb6)) (show w4.heap.size ≠ w3.heap.size by omega) (.slice ac6 E.2.length cc6)) (show w4.heap.size ≠ w3.heap.size + 1 by omega) (.int .u64 (g2 : Int))) (show w4.heap.size ≠ w3.heap.size + 1 by omega) (.int .i64 p2)
  have Y_6 := other_set (j := 1) (other_set (j := 0) (other_set (j := 1) (other_set (j := 0) (Y_q) (show w4.heap.size + 1 ≠ w3.heap.size by omega) (.slice ab6 E.1.length cb6)) (show w4.heap.size + 1 ≠ w3.heap.size by omega) (.slice ac6 E.2.length cc6)) (show w4.heap.size + 1 ≠ w3.heap.size + 1 by omega) (.int .u64 (g2 : Int))) (show w4.heap.size + 1 ≠ w3.heap.size + 1 by omega) (.int .i64 p2)
  have f_6 := disk_aside (j := 1) (u := (.int .i64 p2)) (disk_aside (j := 0) (u := (.int .u64 (g2 : Int))) (disk_aside (j := 1) (u := (.slice ac6 E.2.length cc6)) (disk_aside (j := 0) (u := (.slice ab6 E.1.length cb6)) (f_q) (EN)) (nostr_set (g := w3.heap.size) (j := 0) (u := (.slice ab6 E.1.length cb6)) (EN) (by simp))) (nostr_set (g := w3.heap.size) (j := 1) (u := (.slice ac6 E.2.length cc6)) (nostr_set (g := w3.heap.size) (j := 0) (u := (.slice ab6 E.1.length cb6)) (XN) (by simp)) (by simp))) (nostr_set (g := w3.heap.size + 1) (j := 0) (u := (.int .u64 (g2 : Int))) (nostr_set (g := w3.heap.size) (j := 1) (u := (.slice ac6 E.2.length cc6)) (nostr_set (g := w3.heap.size) (j := 0) (u := (.slice ab6 E.1.length cb6)) (XN) (by simp)) (by simp)) (by simp))
  have e_6 := disk_aside (j := 1) (u := (.int .i64 p2)) (disk_aside (j := 0) (u := (.int .u64 (g2 : Int))) (disk_aside (j := 1) (u := (.slice ac6 E.2.length cc6)) (disk_aside (j := 0) (u := (.slice ab6 E.1.length cb6)) (e_r) (EN)) (nostr_set (g := w3.heap.size) (j := 0) (u := (.slice ab6 E.1.length cb6)) (EN) (by simp))) (nostr_set (g := w3.heap.size) (j := 1) (u := (.slice ac6 E.2.length cc6)) (nostr_set (g := w3.heap.size) (j := 0) (u := (.slice ab6 E.1.length cb6)) (XN) (by simp)) (by simp))) (nostr_set (g := w3.heap.size + 1) (j := 0) (u := (.int .u64 (g2 : Int))) (nostr_set (g := w3.heap.size) (j := 1) (u := (.slice ac6 E.2.length cc6)) (nostr_set (g := w3.heap.size) (j := 0) (u := (.slice ab6 E.1.length cb6)) (XN) (by simp)) (by simp)) (by simp))
  have t6 := below_set (j := 1) (u := (.int .i64 p2)) (below_set (j := 0) (u := (.int .u64 (g2 : Int))) (below_set (j := 1) (u := (.slice ac6 E.2.length cc6)) (below_set (j := 0) (u := (.slice ab6 E.1.length cb6)) (tq) (by omega : w.heap.size ≤ w3.heap.size)) (by omega : w.heap.size ≤ w3.heap.size)) (by omega : w.heap.size ≤ w3.heap.size + 1)) (by omega : w.heap.size ≤ w3.heap.size + 1)
  generalize (World.setCell (World.setCell (World.setCell (World.setCell w6 ⟨w3.heap.size, 0, none⟩ (.slice ab6 E.1.length cb6)) ⟨w3.heap.size, 1, none⟩ (.slice ac6 E.2.length cc6)) ⟨w3.heap.size + 1, 0, none⟩ (.int .u64 (g2 : Int))) ⟨w3.heap.size + 1, 1, none⟩ (.int .i64 p2)) = W6 at *
  clear D_5 G_5 d_5 H_5 h_5 E_5 X_5 e_5 F_5 Y_5 f_5 t5 b6 tq EN Ec0 Ez0 Ec1 Ez1 XN Xc0 Xz0 Xc1 Xz1 D_q G_q d_q H_q h_q E_q X_q F_q Y_q f_q e_r
  have Dx0 := cell2_0 D_6
  have Dx1 := cell2_1 D_6
  have Gx0 := cell2_0 G_6
  have Gx1 := cell2_1 G_6
  go_wp2_with fail
  refine (HRC.out _ _ d_6).mono ?_
  rintro e w7 ⟨ab7, cb7, ac7, cc7, rfl, f_r, b7⟩
  clear Dx0 Dx1 Gx0 Gx1
  have D_q := heap_below D_6 b7
  have G_q := heap_below G_6 b7
  have d_q := d_6.below b7
  have H_q := heap_below H_6 b7
  have h_q := h_6.below b7
  have E_q := heap_below E_6 b7
  have X_q := heap_below X_6 b7
  have F_q := heap_below F_6 b7
  have Y_q := heap_below Y_6 b7
  have e_q := e_6.below b7
  have tq := t6.trans (b7.mono t6.size)
  have FN := no_str F_q (by simp)
  have Fc0 := cell2_0 F_q
  have Fz0 := frozen2 F_q 0
  have Fc1 := cell2_1 F_q
  have Fz1 := frozen2 F_q 1
  have YN := no_str Y_q (by simp)
  have Yc0 := cell2_0 Y_q
  have Yz0 := frozen2 Y_q 0
  have Yc1 := cell2_1 Y_q
  have Yz1 := frozen2 Y_q 1
  go_upto_region 10 with (fail)
  have D_7 := other_set (j := 1) (other_set (j := 0) (other_set (j := 1) (other_set (j := 0) (D_q) (show w.heap.size ≠ w4.heap.size by omega) (.slice ab7 E.1.length cb7)) (show w.heap.size ≠ w4.heap.size by omega) (.slice ac7 E.2.length cc7)) (show w.heap.size ≠ w4.heap.size + 1 by omega) (.int .u64 (g2 : Int))) (show w.heap.size ≠ w4.heap.size + 1 by omega) (.int .i64 p2)
  have G_7 := other_set (j := 1) (other_set (j := 0) (other_set (j := 1) (other_set (j := 0) (G_q) (show w.heap.size + 1 ≠ w4.heap.size by omega) (.slice ab7 E.1.length cb7)) (show w.heap.size + 1 ≠ w4.heap.size by omega) (.slice ac7 E.2.length cc7)) (show w.heap.size + 1 ≠ w4.heap.size + 1 by omega) (.int .u64 (g2 : Int))) (show w.heap.size + 1 ≠ w4.heap.size + 1 by omega) (.int .i64 p2)
  have d_7 := disk_aside (j := 1) (u := (.int .i64 p2)) (disk_aside (j := 0) (u := (.int .u64 (g2 : Int))) (disk_aside (j := 1) (u := (.slice ac7 E.2.length cc7)) (disk_aside (j := 0) (u := (.slice ab7 E.1.length cb7)) (d_q) (FN)) (nostr_set (g := w4.heap.size) (j := 0) (u := (.slice ab7 E.1.length cb7)) (FN) (by simp))) (nostr_set (g := w4.heap.size) (j := 1) (u := (.slice ac7 E.2.length cc7)) (nostr_set (g := w4.heap.size) (j := 0) (u := (.slice ab7 E.1.length cb7)) (YN) (by simp)) (by simp))) (nostr_set (g := w4.heap.size + 1) (j := 0) (u := (.int .u64 (g2 : Int))) (nostr_set (g := w4.heap.size) (j := 1) (u := (.slice ac7 E.2.length cc7)) (nostr_set (g := w4.heap.size) (j := 0) (u := (.slice ab7 E.1.length cb7)) (YN) (by simp)) (by simp)) (by simp))
  have H_7 := other_set (j := 1) (other_set (j := 0) (other_set (j := 1) (other_set (j := 0) (H_q) (show w2.heap.size ≠ w4.heap.size by omega) (.slice ab7 E.1.length cb7)) (show w2.heap.size ≠ w4.heap.size by omega) (.slice ac7 E.2.length cc7)) (show w2.heap.size ≠ w4.heap.size + 1 by omega) (.int .u64 (g2 : Int))) (show w2.heap.size ≠ w4.heap.size + 1 by omega) (.int .i64 p2)
  have h_7 := disk_aside (j := 1) (u := (.int .i64 p2)) (disk_aside (j := 0) (u := (.int .u64 (g2 : Int))) (disk_aside (j := 1) (u := (.slice ac7 E.2.length cc7)) (disk_aside (j := 0) (u := (.slice ab7 E.1.length cb7)) (h_q) (FN)) (nostr_set (g := w4.heap.size) (j := 0) (u := (.slice ab7 E.1.length cb7)) (FN) (by simp))) (nostr_set (g := w4.heap.size) (j := 1) (u := (.slice ac7 E.2.length cc7)) (nostr_set (g := w4.heap.size) (j := 0) (u := (.slice ab7 E.1.length cb7)) (YN) (by simp)) (by simp))) (nostr_set (g := w4.heap.size + 1) (j := 0) (u := (.int .u64 (g2 : Int))) (nostr_set (g := w4.heap.size) (j := 1) (u := (.slice ac7 E.2.length cc7)) (nostr_set (g := w4.heap.size) (j := 0) (u := (.slice ab7 E.1.length cb7)) (YN) (by simp)) (by simp)) (by simp))
  have E_7 := other_set (j := 1) (other_set (j := 0) (other_set (j := 1) (other_set (j := 0) (E_q) (show w3.heap.size ≠ w4.heap.size by omega) (.slice ab7 E.1.length cb7)) (show w3.heap.size ≠ w4.heap.size by omega) (.slice ac7 E.2.length cc7)) (show w3.heap.size ≠ w4.heap.size + 1 by omega) (.int .u64 (g2 : Int))) (show w3.heap.size ≠ w4.heap.size + 1 by omega) (.int .i64 p2)
  have X_7 := other_set (j := 1) (other_set (j := 0) (other_set (j := 1) (other_set (j := 0) (X_q) (show w3.heap.size + 1 ≠ w4.heap.size by omega) (.slice ab7 E.1.length cb7)) (show w3.heap.size + 1 ≠ w4.heap.size by omega) (.slice ac7 E.2.length cc7)) (show w3.heap.size + 1 ≠ w4.heap.size + 1 by omega) (.int .u64 (g2 : Int))) (show w3.heap.size + 1 ≠ w4.heap.size + 1 by omega) (.int .i64 p2)
  have F_7 := other_set (j := 1) (other_set (j := 0) (set_two (x' := (.slice ab7 E.1.length cb7)) (y' := (.slice ac7 E.2.length cc7)) (F_q)) (show w4.heap.size ≠ w4.heap.size + 1 by omega) (.int .u64 (g2 : Int))) (show w4.heap.size ≠ w4.heap.size + 1 by omega) (.int .i64 p2)
  have Y_7 := set_two (x' := (.int .u64 (g2 : Int))) (y' := (.int .i64 p2)) (other_set (j := 1) (other_set (j := 0) (Y_q) (show w4.heap.size + 1 ≠ w4.heap.size by omega) (.slice ab7 E.1.length cb7)) (show w4.heap.size + 1 ≠ w4.heap.size by omega) (.slice ac7 E.2.length cc7))
  have f_7 := disk_aside (j := 1) (u := (.int .i64 p2)) (disk_aside (j := 0) (u := (.int .u64 (g2 : Int))) (disk_aside (j := 1) (u := (.slice ac7 E.2.length cc7)) (disk_aside (j := 0) (u := (.slice ab7 E.1.length cb7)) (f_r) (FN)) (nostr_set (g := w4.heap.size) (j := 0) (u := (.slice ab7 E.1.length cb7)) (FN) (by simp))) (nostr_set (g := w4.heap.size) (j := 1) (u := (.slice ac7 E.2.length cc7)) (nostr_set (g := w4.heap.size) (j := 0) (u := (.slice ab7 E.1.length cb7)) (YN) (by simp)) (by simp))) (nostr_set (g := w4.heap.size + 1) (j := 0) (u := (.int .u64 (g2 : Int))) (nostr_set (g := w4.heap.size) (j := 1) (u := (.slice ac7 E.2.length cc7)) (nostr_set (g := w4.heap.size) (j := 0) (u := (.slice ab7 E.1.length cb7)) (YN) (by simp)) (by simp)) (by simp))
  have e_7 := disk_aside (j := 1) (u := (.int .i64 p2)) (disk_aside (j := 0) (u := (.int .u64 (g2 : Int))) (disk_aside (j := 1) (u := (.slice ac7 E.2.length cc7)) (disk_aside (j := 0) (u := (.slice ab7 E.1.length cb7)) (e_q) (FN)) (nostr_set (g := w4.heap.size) (j := 0) (u := (.slice ab7 E.1.length cb7)) (FN) (by simp))) (nostr_set (g := w4.heap.size) (j := 1) (u := (.slice ac7 E.2.length cc7)) (nostr_set (g := w4.heap.size) (j := 0) (u := (.slice ab7 E.1.length cb7)) (YN) (by simp)) (by simp))) (nostr_set (g := w4.heap.size + 1) (j := 0) (u := (.int .u64 (g2 : Int))) (nostr_set (g := w4.heap.size) (j := 1) (u := (.slice ac7 E.2.length cc7)) (nostr_set (g := w4.heap.size) (j := 0) (u := (.slice ab7 E.1.length cb7)) (YN) (by simp)) (by simp)) (by simp))
  have f_7 := disk_aside (j := 1) (u := (.int .i64 p2)) (disk_aside (j := 0) (u := (.int .u64 (g2 : Int))) (disk_aside (j := 1) (u := (.slice ac7 E.2.length cc7)) (disk_aside (j := 0) (u := (.slice ab7 E.1.length cb7)) (f_r) (FN)) (nostr_set (g := w4.heap.size) (j := 0) (u := (.slice ab7 E.1.length cb7)) (FN) (by simp))) (nostr_set (g := w4.heap.size) (j := 1) (u := (.slice ac7 E.2.length cc7)) (nostr_set (g := w4.heap.size) (j := 0) (u := (.slice ab7 E.1.length cb7)) (YN) (by simp)) (by simp))) (nostr_set (g := w4.heap.size + 1) (j := 0) (u := (.int .u64 (g2 : Int))) (nostr_set (g := w4.heap.size) (j := 1) (u := (.slice ac7 E.2.length cc7)) (nostr_set (g := w4.heap.size) (j := 0) (u := (.slice ab7 E.1.length cb7)) (YN) (by simp)) (by simp)) (by simp))
  have t7 := below_set (j := 1) (u := (.int .i64 p2)) (below_set (j := 0) (u := (.int .u64 (g2 : Int))) (below_set (j := 1) (u := (.slice ac7 E.2.length cc7)) (below_set (j := 0) (u := (.slice ab7 E.1.length cb7)) (tq) (by omega : w.heap.size ≤ w4.heap.size)) (by omega : w.heap.size ≤ w4.heap.size)) (by omega : w.heap.size ≤ w4.heap.size + 1)) (by omega : w.heap.size ≤ w4.heap.size + 1)
  generalize (World.setCell (World.setCell (World.setCell (World.setCell w7 ⟨w4.heap.size, 0, none⟩ (.slice ab7 E.1.length cb7)) ⟨w4.heap.size, 1, none⟩ (.slice ac7 E.2.length cc7)) ⟨w4.heap.size + 1, 0, none⟩ (.int .u64 (g2 : Int))) ⟨w4.heap.size + 1, 1, none⟩ (.int .i64 p2)) = W7 at *
  clear D_6 G_6 d_6 H_6 h_6 E_6 X_6 F_6 Y_6 f_6 e_6 t6 b7 tq FN Fc0 Fz0 Fc1 Fz1 YN Yc0 Yz0 Yc1 Yz1 D_q G_q d_q H_q h_q E_q X_q F_q Y_q e_q f_r
  have Ex0 := cell2_0 E_7
  have Ex1 := cell2_1 E_7
  have Fx0 := cell2_0 F_7
  have Fx1 := cell2_1 F_7
  have Xx0 := cell2_0 X_7
  have Xx1 := cell2_1 X_7
  have Yx0 := cell2_0 Y_7
  have Yx1 := cell2_1 Y_7
  go_wp2_with fail
  refine (HSE.out _ _ _ e_7 f_7).mono ?_
  rintro e w8 ⟨rfl, b8⟩
  have D_8 := heap_below D_7 b8
  have G_8 := heap_below G_7 b8
  have d_8 := d_7.below b8
  have H_8 := heap_below H_7 b8
  have h_8 := h_7.below b8
  have E_8 := heap_below E_7 b8
  have X_8 := heap_below X_7 b8
  have F_8 := heap_below F_7 b8
  have Y_8 := heap_below Y_7 b8
  have e_8 := e_7.below b8
  have f_8 := f_7.below b8
  have t8 := t7.trans (b8.mono t7.size)
  clear Ex0 Ex1 Fx0 Fx1 Xx0 Xx1 Yx0 Yx1 D_7 G_7 d_7 H_7 h_7 E_7 X_7 F_7 Y_7 e_7 f_7 t7 b8
  have Xx0 := cell2_0 X_8
  have Xx1 := cell2_1 X_8
  have Yx0 := cell2_0 Y_8
  have Yx1 := cell2_1 Y_8
  have Hx0 := cell2_0 H_8
  have Hx1 := cell2_1 H_8
  have Gx0 := cell2_0 G_8
  have Gx1 := cell2_1 G_8
  go_wp2_with fail
  refine (HRo.out _ _ h_8).mono ?_
  rintro e w9 ⟨rfl, b9⟩
  have D_9 := heap_below D_8 b9
  have G_9 := heap_below G_8 b9
  have d_9 := d_8.below b9
  have H_9 := heap_below H_8 b9
  have h_9 := h_8.below b9
  have E_9 := heap_below E_8 b9
  have X_9 := heap_below X_8 b9
  have F_9 := heap_below F_8 b9
  have Y_9 := heap_below Y_8 b9
  have e_9 := e_8.below b9
  have f_9 := f_8.below b9
  have t9 := t8.trans (b9.mono t8.size)
  clear Xx0 Xx1 Yx0 Yx1 Hx0 Hx1 Gx0 Gx1 D_8 G_8 d_8 H_8 h_8 E_8 X_8 F_8 Y_8 e_8 f_8 t8 b9
  have Dx0 := cell2_0 D_9
  have Dx1 := cell2_1 D_9
  have Gx0 := cell2_0 G_9
  have Gx1 := cell2_1 G_9
  go_wp2_with fail
  refine (HRR.out _ _ d_9).mono ?_
  rintro e w10 ⟨rfl, b10⟩
  have D_10 := heap_below D_9 b10
  have G_10 := heap_below G_9 b10
  have d_10 := d_9.below b10
  have H_10 := heap_below H_9 b10
  have h_10 := h_9.below b10
  have E_10 := heap_below E_9 b10
  have X_10 := heap_below X_9 b10
  have F_10 := heap_below F_9 b10
  have Y_10 := heap_below Y_9 b10
  have e_10 := e_9.below b10
  have f_10 := f_9.below b10
  have t10 := t9.trans (b10.mono t9.size)
  clear Dx0 Dx1 Gx0 Gx1 D_9 G_9 d_9 H_9 h_9 E_9 X_9 F_9 Y_9 e_9 f_9 t9 b10
  have Hx0 := cell2_0 H_10
  have Hx1 := cell2_1 H_10
  have Dx0 := cell2_0 D_10
  have Dx1 := cell2_1 D_10
  go_wp2_with fail
  refine (HSD.out _ _ _ h_10 d_10).mono ?_
  rintro e w11 ⟨rfl, b11⟩
  have D_11 := heap_below D_10 b11
  have G_11 := heap_below G_10 b11
  have d_11 := d_10.below b11
  have H_11 := heap_below H_10 b11
  have h_11 := h_10.below b11
  have E_11 := heap_below E_10 b11
  have X_11 := heap_below X_10 b11
  have F_11 := heap_below F_10 b11
  have Y_11 := heap_below Y_10 b11
  have e_11 := e_10.below b11
  have f_11 := f_10.below b11
  have t11 := t10.trans (b11.mono t10.size)
  clear Hx0 Hx1 Dx0 Dx1 D_10 G_10 d_10 H_10 h_10 E_10 X_10 F_10 Y_10 e_10 f_10 t10 b11
  go_wp2_with fail
  refine (HA.out _ (hT.out.below t11)).mono ?_
  rintro e w12 ⟨rfl, b12⟩
  have D_12 := heap_below D_11 b12
  have G_12 := heap_below G_11 b12
  have d_12 := d_11.below b12
  have H_12 := heap_below H_11 b12
  have h_12 := h_11.below b12
  have E_12 := heap_below E_11 b12
  have X_12 := heap_below X_11 b12
  have F_12 := heap_below F_11 b12
  have Y_12 := heap_below Y_11 b12
  have e_12 := e_11.below b12
  have f_12 := f_11.below b12
  have t12 := t11.trans (b12.mono t11.size)
  clear D_11 G_11 d_11 H_11 h_11 E_11 X_11 F_11 Y_11 e_11 f_11 t11 b12
  go_wp2
  go_ret
  exact ⟨rfl, t12⟩
end Go.Proofs.YtmfbkelhegdmpaaGreatDoor
