/- The walk of SnapMakes, chapter 13 (snap). -/
import Derived.Test.YtmfbkelhegdmpaaGreatDoorSnLaws
import Derived.Test.YtmfbkelhegdmpaaGreatDoorSnapQ
import Derived.Test.YtmfbkelhegdmpaaGreatDoorDiskKit
namespace Go.Proofs.YtmfbkelhegdmpaaGreatDoor
open Go.RowKit Disk11 Journal12 Sum2

theorem format_len (b : Int) (x : List UInt8) : (formatS b x).1.1.length ≤ 4096 ∧ (formatS b x).1.2.length ≤ 4096 := by
  by_cases hc : (capS b).2 = 0
  · obtain ⟨h8, h4, hcap⟩ := cap_range hc
    obtain ⟨n, rfl⟩ : ∃ n : Nat, b = (n : Int) := ⟨b.toNat, by omega⟩
    by_cases hl : (capS (n : Int)).1 < (x.length : Int)
    · rw [format_f2 rfl hc hl]; exact ⟨Nat.zero_le _, Nat.zero_le _⟩
    · obtain ⟨D, h1, h2, h3⟩ := format_laid n x (by omega) (by omega) (by rw [hcap] at hl; unfold slotN; omega)
      rw [h1]
      exact ⟨by rw [h3.2.1]; omega, by rw [h2]; exact Nat.zero_le _⟩
  · rw [format_f1 rfl hc]; exact ⟨Nat.zero_le _, Nat.zero_le _⟩
set_option maxHeartbeats 8000000 in
set_option maxRecDepth 100000 in
theorem SnapMakes_any (b : Int) (hb : I64 b) (x : List UInt8) (w : World) (ht : Tab w) (hx : x.length ≤ 140737488351232) :
    Calls Tryz.prog 3 #[.int .i64 b, .string ⟨x.toArray⟩] w fun e w' => e = .returned (.bool true) ∧ Below w.heap.size w w' := by
  have HA := Lib.hid (fun W t => awake_any13 W t)
  have hT := Lib.hid ht
  have z2 : (⟨x.toArray⟩ : ByteArray).size = x.length := rfl
  obtain ⟨p1, h1⟩ : ∃ q, decide ((60 : Int) < b) = q := ⟨_, rfl⟩
  obtain ⟨p2, h2⟩ : ∃ q, decide (b < (4090 : Int)) = q := ⟨_, rfl⟩
  obtain ⟨p3, h3⟩ : ∃ q, decide (5000 < x.length) = q := ⟨_, rfl⟩
  have h3' : decide ((5000 : Int) < (x.length : Int)) = p3 := by rw [← h3]; simp; omega
  have hp3 : p3 = false → x.length ≤ 5000 := fun e => by rw [e] at h3; simpa using h3
  have HP3 := Lib.hid hp3
  clear ht hp3
  go_enter Tryz.func3, Tryz.ntmps3
  go_upto_region 1 with (fail)
  go_cut [23] from 13 to 23 (fun u W => u = .bool ((p1 && p2) || p3) ∧ W = w)
  case first =>
    clear HP3
    cases p1 <;> cases p2 <;> cases p3 <;> go_wp2_with fail
    all_goals
      go_meet
      exact ⟨rfl, rfl⟩
  case rest =>
  obtain ⟨rfl, rfl⟩ := hcut
  obtain ⟨w, hw⟩ : ∃ w, w = wc := ⟨_, rfl⟩
  subst hw
  obtain ⟨B, hBe⟩ : ∃ B, B = ((p1 && p2) || p3) := ⟨_, rfl⟩
  rw [← hBe]
  have hB' := Lib.hid hBe
  clear hBe h1 h2 h3 h3'
  cases B
  case true =>
    go_wp2_with fail
    refine (HA.out _ hT.out).mono ?_
    rintro e w1 ⟨rfl, b1⟩
    go_wp2
    go_ret
    exact ⟨rfl, b1⟩
  have hx5 : x.length ≤ 5000 := HP3.out (by have h := hB'.out; cases p3; rfl; rw [Bool.or_true] at h; cases h)
  have HC := Lib.hid (fun W => Capacity_any b hb W)
  have HRC := Lib.hid (fun W => RCapacity_any b hb W)
  generalize capS b = cc at HC HRC
  obtain ⟨c1, c2⟩ := cc
  have hlen := format_len b x
  obtain ⟨R, hR⟩ : ∃ R, R = formatS b x := ⟨_, rfl⟩
  obtain ⟨D, ⟨g, p⟩, k⟩ := R
  rw [← hR] at hlen
  dsimp only at hlen
  have HF := Lib.hid (fun W t => (Format_any13 b hb x W (by omega) t).mono (fun _ _ => snap_open hR.symm))
  have HRF := Lib.hid (fun W => (RFormat_any13 b hb x W (by omega)).mono (fun _ _ => snap_open hR.symm))
  have HSD := Lib.hid (fun v1 v2 W (h1 : DiskIs W D v1) (h2 : DiskIs W D v2) => SameDisk_same D v1 v2 W h1 h2 (by omega) (by omega))
  have he := eq_log_same (g : Int) p
  have t0 := Below.refl w.heap.size w
  clear hR hlen HP3 hB'
  go_wp2_with fail
  refine (HC.out _).mono ?_
  rintro e w1 ⟨rfl, b1⟩
  have t1 := t0.trans (b1.mono t0.size)
  clear t0 b1
  go_wp2_with fail
  refine (HRC.out _).mono ?_
  rintro e ws ⟨rfl, rfl⟩
  go_wp2_with fail
  refine (HF.out _ (hT.out.below t1)).mono ?_
  rintro e w2 ⟨ab2, cb2, ac2, cc2, rfl, d_r, b2⟩
  obtain ⟨A_2, X_2, _, a2⟩ := alloc2 w2 (.cells #[.slice ab2 D.1.length cb2, .slice ac2 D.2.length cc2] 29) (.cells #[.int .u64 (g : Int), .int .i64 p] 32)
  have c2 := b2.trans (a2.mono b2.size)
  have t2 := t1.trans (c2.mono t1.size)
  have d_2 := d_r.below a2
  clear t1 d_r a2 b2 c2
  go_upto_region 8 with (fail)
  generalize (World.alloc (World.alloc w2 (.cells #[.slice ab2 D.1.length cb2, .slice ac2 D.2.length cc2] 29)) (.cells #[.int .u64 (g : Int), .int .i64 p] 32)) = W2 at *
  go_wp2_with fail
  refine (HRF.out _).mono ?_
  rintro e w3 ⟨ab3, cb3, ac3, cc3, rfl, e_r, b3⟩
  obtain ⟨B_3, Y_3, _, a3⟩ := alloc2 w3 (.cells #[.slice ab3 D.1.length cb3, .slice ac3 D.2.length cc3] 29) (.cells #[.int .u64 (g : Int), .int .i64 p] 32)
  have c3 := b3.trans (a3.mono b3.size)
  have A_3 := heap_below A_2 c3
  have X_3 := heap_below X_2 c3
  have d_3 := d_2.below c3
  have t3 := t2.trans (c3.mono t2.size)
  have e_3 := e_r.below a3
  clear A_2 X_2 d_2 t2 e_r a3 b3 c3
  go_upto_region 9 with (fail)
  generalize (World.alloc (World.alloc w3 (.cells #[.slice ab3 D.1.length cb3, .slice ac3 D.2.length cc3] 29)) (.cells #[.int .u64 (g : Int), .int .i64 p] 32)) = W3 at *
  have Ax0 := cell2_0 A_3
  have Ax1 := cell2_1 A_3
  have Xx0 := cell2_0 X_3
  have Xx1 := cell2_1 X_3
  have Bx0 := cell2_0 B_3
  have Bx1 := cell2_1 B_3
  have Yx0 := cell2_0 Y_3
  have Yx1 := cell2_1 Y_3
  go_wp2_with fail
  refine (HSD.out _ _ _ d_3 e_3).mono ?_
  rintro e w4 ⟨rfl, b4⟩
  have A_4 := heap_below A_3 b4
  have X_4 := heap_below X_3 b4
  have d_4 := d_3.below b4
  have B_4 := heap_below B_3 b4
  have Y_4 := heap_below Y_3 b4
  have e_4 := e_3.below b4
  have t4 := t3.trans (b4.mono t3.size)
  clear Ax0 Ax1 Xx0 Xx1 Bx0 Bx1 Yx0 Yx1 A_3 X_3 d_3 B_3 Y_3 e_3 t3 b4
  have Xx0 := cell2_0 X_4
  have Xx1 := cell2_1 X_4
  have Yx0 := cell2_0 Y_4
  have Yx1 := cell2_1 Y_4
  go_wp2_with fail
  refine (HA.out _ (hT.out.below t4)).mono ?_
  rintro e w5 ⟨rfl, b5⟩
  have A_5 := heap_below A_4 b5
  have X_5 := heap_below X_4 b5
  have d_5 := d_4.below b5
  have B_5 := heap_below B_4 b5
  have Y_5 := heap_below Y_4 b5
  have e_5 := e_4.below b5
  have t5 := t4.trans (b5.mono t4.size)
  clear Xx0 Xx1 Yx0 Yx1 A_4 X_4 d_4 B_4 Y_4 e_4 t4 b5
  go_wp2
  go_ret
  exact ⟨rfl, t5⟩
end Go.Proofs.YtmfbkelhegdmpaaGreatDoor
