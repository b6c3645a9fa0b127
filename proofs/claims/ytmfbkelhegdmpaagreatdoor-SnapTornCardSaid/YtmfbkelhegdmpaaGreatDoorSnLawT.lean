/- The walk of SnapTorn, chapter 13 (snap). -/
import Derived.Test.YtmfbkelhegdmpaaGreatDoorSnLawK
import Derived.Test.YtmfbkelhegdmpaaGreatDoorSnLawN
import Derived.Test.YtmfbkelhegdmpaaGreatDoorSnLawX
import Derived.Test.YtmfbkelhegdmpaaGreatDoorSnLawV
namespace Go.Proofs.YtmfbkelhegdmpaaGreatDoor
open Go.RowKit Disk11 Journal12 Sum2

set_option maxHeartbeats 8000000 in
set_option maxRecDepth 100000 in
theorem SnapTorn_any (nums : List Int) (v : Value) (more n : Int) (w : World) (hm : I64 more) (hn : I64 n) (hwf : ∀ n ∈ nums, I64 n) (hr : Row w 1 v nums.length (nums.map fun n => .int .i64 n)) (ht : Tab w) :
    Calls Tryz.prog 8 #[v, .int .i64 more, .int .i64 n] w fun e w' => e = .returned (.bool true) ∧ Below w.heap.size w w' := by
  have HS := Lib.hid (fun W t => SnapKnown_any W t)
  have HW := Lib.hid (fun W r t => written_any13 nums v W hwf r t)
  have HX := Lib.hid (fun W => text_any13 more hm W)
  have Hn := Lib.hid hn
  have hT := Lib.hid ht
  have p_0 := hr
  have t0 := Below.refl w.heap.size w
  clear ht hr hm hn
  go_enter Tryz.func8, Tryz.ntmps8
  go_wp2_with fail
  refine (HS.out _ (hT.out.below t0)).mono ?_
  rintro e w1 ⟨rfl, b1⟩
  have p_1 := p_0.below b1
  have t1 := t0.trans (b1.mono t0.size)
  clear p_0 t0 b1
  go_wp2_with fail
  refine (HW.out _ p_1 (hT.out.below t1)).mono ?_
  rintro e w2 ⟨D, L, ab2, cb2, ac2, cc2, al2, cl2, rfl, P1, P2, P3, P4, d_r, r_r, b2⟩
  have gw : w.heap.size ≤ w2.heap.size := (t1.trans (b2.mono t1.size)).size
  obtain ⟨D_2, G_2, _, a2⟩ := alloc2 w2 (.cells #[.slice ab2 D.1.length cb2, .slice ac2 D.2.length cc2] 29) (.cells #[.int .u64 1, .int .i64 ((sizeJ (withS (putN 1) L) : Nat) : Int)] 32)
  have c2 := b2.trans (a2.mono b2.size)
  have p_2 := p_1.below c2
  have t2 := t1.trans (c2.mono t1.size)
  have d_2 := d_r.below a2
  have r_2 := r_r.below a2
  clear p_1 t1 d_r r_r a2 b2 c2
  go_upto_region 3 with (fail)
  generalize (World.alloc (World.alloc w2 (.cells #[.slice ab2 D.1.length cb2, .slice ac2 D.2.length cc2] 29)) (.cells #[.int .u64 1, .int .i64 ((sizeJ (withS (putN 1) L) : Nat) : Int)] 32)) = W2 at *
  clear p_2
  have r_2 := Row.of_own r_2
  obtain ⟨S, hS0, hS1, hS2, P5⟩ := synced_plain P1
  have HY := Lib.hid (fun v W h => sync_open (w := W) (v := v) hS0 h)
  have HP := Lib.hid (And.intro P3 (And.intro P4 P5))
  have hL6 := P3
  rw [hS1, hS2] at HY
  clear P1 P2 P3 P4 P5 hS0
  have Dx0 := cell2_0 D_2
  have Dx1 := cell2_1 D_2
  go_wp2_with fail
  refine (HY.out _ _ d_2).mono ?_
  rintro e w3 ⟨ab3, cb3, ac3, cc3, rfl, d_r, b3⟩
  clear Dx0 Dx1
  have D_q := heap_below D_2 b3
  have G_q := heap_below G_2 b3
  have d_q := d_2.below b3
  have r_q := r_2.below b3
  have tq := t2.trans (b3.mono t2.size)
  have DN := no_str D_q (by simp)
  have Dc0 := cell2_0 D_q
  have Dz0 := frozen2 D_q 0
  have Dc1 := cell2_1 D_q
  have Dz1 := frozen2 D_q 1
  go_upto_region 4 with (fail)
  have D_3 := set_two (x' := (.slice ab3 12 cb3)) (y' := (.slice ac3 0 cc3)) (D_q)
  have G_3 := other_set (j := 1) (other_set (j := 0) (G_q) (show w2.heap.size + 1 ≠ w2.heap.size by omega) (.slice ab3 12 cb3)) (show w2.heap.size + 1 ≠ w2.heap.size by omega) (.slice ac3 0 cc3)
  have d_3 := disk_aside (j := 1) (u := (.slice ac3 0 cc3)) (disk_aside (j := 0) (u := (.slice ab3 12 cb3)) (d_r) (DN)) (nostr_set (g := w2.heap.size) (j := 0) (u := (.slice ab3 12 cb3)) (DN) (by simp))
  have r_3 := row_aside (j := 1) (u := (.slice ac3 0 cc3)) (row_aside (j := 0) (u := (.slice ab3 12 cb3)) (r_q) (DN)) (nostr_set (g := w2.heap.size) (j := 0) (u := (.slice ab3 12 cb3)) (DN) (by simp))
  have d_3 := disk_aside (j := 1) (u := (.slice ac3 0 cc3)) (disk_aside (j := 0) (u := (.slice ab3 12 cb3)) (d_r) (DN)) (nostr_set (g := w2.heap.size) (j := 0) (u := (.slice ab3 12 cb3)) (DN) (by simp))
  have t3 := below_set (j := 1) (u := (.slice ac3 0 cc3)) (below_set (j := 0) (u := (.slice ab3 12 cb3)) (tq) (by omega : w.heap.size ≤ w2.heap.size)) (by omega : w.heap.size ≤ w2.heap.size)
  generalize (World.setCell (World.setCell w3 ⟨w2.heap.size, 0, none⟩ (.slice ab3 12 cb3)) ⟨w2.heap.size, 1, none⟩ (.slice ac3 0 cc3)) = W3 at *
  clear D_2 G_2 d_2 r_2 t2 b3 tq DN Dc0 Dz0 Dc1 Dz1 D_q G_q d_q r_q d_r
  go_wp2_with fail
  refine (HX.out _).mono ?_
  rintro e w4 ⟨x, hx, rfl, b4⟩
  have D_4 := heap_below D_3 b4
  have G_4 := heap_below G_3 b4
  have d_4 := d_3.below b4
  have r_4 := r_3.below b4
  have t4 := t3.trans (b4.mono t3.size)
  clear D_3 G_3 d_3 r_3 t3 b4
  obtain ⟨A, hA0, hA1, hA2, hA3, hA4, hA5⟩ := torn_plain HP.out.2.2 hS2 HP.out.1 hx HP.out.2.1
  obtain ⟨L2, hL2⟩ : ∃ L2, L2 = L ++ [x] := ⟨_, rfl⟩
  rw [← hL2] at hA0 hA1 hA5
  have HL2 := Lib.hid hL2
  clear hL2
  have HA := Lib.hid (fun v W h t => (Append_any13 S v 1 ((sizeJ (withS (putN 1) L) : Nat) : Int) x W (by decide) (by omega) h t).mono (fun _ _ => snap_open hA0))
  rw [hA2, hA3, show ((0 : Nat) : Int) = 0 from rfl, show ((1 : Nat) : Int) = 1 from rfl] at HA
  have HC := Lib.hid (fun v W h => crash_some A v n Hn.out W h (by omega) hA4 (fun k t hk ht => by obtain ⟨C, _, _, hc, _⟩ := hA5 k t hk ht; exact ⟨C, hc⟩))
  have HQ := Lib.hid hA5
  have HA1 := Lib.hid hA1
  have Hx := Lib.hid hx
  have HA3 := Lib.hid (And.intro hA2 hA3)
  clear hA0 hA1 hA2 hA3 hA4 hA5 hx hS1 hS2
  have Dx0 := cell2_0 D_4
  have Dx1 := cell2_1 D_4
  have Gx0 := cell2_0 G_4
  have Gx1 := cell2_1 G_4
  go_wp2_with fail
  refine (HA.out _ _ d_4 (hT.out.below t4)).mono ?_
  rintro e w5 ⟨ab5, cb5, ac5, cc5, rfl, a_r, b5⟩
  obtain ⟨A_5, B_5, _, a5⟩ := alloc2 w5 (.cells #[.slice ab5 12 cb5, .slice ac5 1 cc5] 29) (.cells #[.int .u64 1, .int .i64 ((sizeJ (withS (putN 1) L2) : Nat) : Int)] 32)
  have c5 := b5.trans (a5.mono b5.size)
  have D_5 := heap_below D_4 c5
  have G_5 := heap_below G_4 c5
  have d_5 := d_4.below c5
  have r_5 := r_4.below c5
  have t5 := t4.trans (c5.mono t4.size)
  have a_5 := a_r.below a5
  clear Dx0 Dx1 Gx0 Gx1 D_4 G_4 d_4 r_4 t4 a_r a5 b5 c5
  go_upto_region 8 with (fail)
  generalize (World.alloc (World.alloc w5 (.cells #[.slice ab5 12 cb5, .slice ac5 1 cc5] 29)) (.cells #[.int .u64 1, .int .i64 ((sizeJ (withS (putN 1) L2) : Nat) : Int)] 32)) = W5 at *
  have Ax0 := cell2_0 A_5
  have Ax1 := cell2_1 A_5
  go_wp2_with fail
  refine (HC.out _ _ a_5).mono ?_
  rintro e w6 ⟨k, t, C, ab6, cb6, ac6, cc6, hk, ht, hC, rfl, c_r, b6⟩
  obtain ⟨C', c, l, q1, q2, q3, q4, q5, q6⟩ := HQ.out k t hk ht
  rw [hC] at q1
  obtain rfl : C = C' := congrArg (fun r : Dev × Nat => r.1.1) q1
  rw [q2] at c_r ⊢
  have HR := Lib.hid (fun v W h t => (Recover_any13 (C, []) v W h t).mono (fun _ _ => rec_open q3))
  have q4l : c.1.length = 12 := q4.2.1
  obtain ⟨cn, hcn⟩ : ∃ cn, cn = c.2.length := ⟨_, rfl⟩
  rw [q4l, ← hcn, show ((0 : Nat) : Int) = 0 from rfl, show ((1 : Nat) : Int) = 1 from rfl] at HR
  have h6 := HP.out.1
  rw [HL2.out] at q6
  have hl7 : l.length ≤ 7 := by rcases q6 with e | e <;> rw [e] <;> first | omega | (simp; omega)
  have hls : ∀ y ∈ l, y.length ≤ 12 := by
    intro y hy
    rcases q6 with e | e
    · rw [e] at hy; exact HP.out.2.1 y hy
    · rw [e] at hy
      rcases List.mem_append.1 hy with h | h
      · exact HP.out.2.1 y h
      · rw [List.mem_singleton.1 h]; exact Hx.out
  obtain ⟨X, y1, y2, y3, y4⟩ := last_plain q4 (.inl rfl) q5 hl7 hls (show ([108, 97, 115, 116] : List UInt8).length ≤ 12 by decide)
  obtain ⟨M, hM⟩ : ∃ M, M = l ++ [[108, 97, 115, 116]] := ⟨_, rfl⟩
  obtain ⟨Xn, hXn⟩ : ∃ n, n = X.2.length := ⟨_, rfl⟩
  rw [← hM] at y1 y2
  have HA2 := Lib.hid (fun v W h t => (Append_any13 c v 1 ((sizeJ (withS (putN 1) l) : Nat) : Int) [108, 97, 115, 116] W (by decide) (by decide) h t).mono (fun _ _ => snap_open y1))
  rw [y3, ← hXn, show ((0 : Nat) : Int) = 0 from rfl, show ((1 : Nat) : Int) = 1 from rfl] at HA2
  have HG1 := Lib.hid (fun v vl W hd hr t => laid_gives y2 (by decide) (by rw [hM]; simp; omega) v vl W hd hr t)
  have HG2 := Lib.hid (fun v vl W hd hr t => laid_gives HA1.out (by decide) (by rw [HL2.out]; simp; omega) v vl W hd hr t)
  have hzb := size12 HP.out.2.1
  have hx12 := Hx.out
  have hw1 : IntKind.i64.wrap (((sizeJ (withS (putN 1) L) : Nat) : Int) + 11) = ((sizeJ (withS (putN 1) L) : Nat) : Int) + 11 := by rw [IntKind.wrap_i64]; omega
  have hw2 : IntKind.i64.wrap (((sizeJ (withS (putN 1) L) : Nat) : Int) + 11 + (x.length : Int)) = ((sizeJ (withS (putN 1) L) : Nat) : Int) + 11 + (x.length : Int) := by rw [IntKind.wrap_i64]; omega
  have hz2 : ((sizeJ (withS (putN 1) L2) : Nat) : Int) = IntKind.i64.wrap (IntKind.i64.wrap (((sizeJ (withS (putN 1) L) : Nat) : Int) + 11) + (x.length : Int)) := by rw [hw1, hw2, HL2.out, torn_size]; push_cast; rfl
  rw [show ((1 : Nat) : Int) = 1 from rfl] at HG1 HG2
  rw [hz2] at HG2
  have HM := Lib.hid hM
  have HZ := Lib.hid hzb
  clear hzb
  have Hl := Lib.hid q6
  clear q1 q2 q3 q4 q5 q6 q4l hz2 hw1 hw2 hx12 hcn hls y1 y2 y3 y4 hM hXn hk ht hC HQ HC
  have a6 := Go.Joins.below_alloc1 w6 (.cells #[.slice ab6 12 cb6, .slice ac6 0 cc6] 29)
  have C_6 := World.alloc_heap_new w6 (.cells #[.slice ab6 12 cb6, .slice ac6 0 cc6] 29)
  have c6 := b6.trans (a6.mono b6.size)
  have D_6 := heap_below D_5 c6
  have G_6 := heap_below G_5 c6
  have d_6 := d_5.below c6
  have r_6 := r_5.below c6
  have A_6 := heap_below A_5 c6
  have B_6 := heap_below B_5 c6
  have a_6 := a_5.below c6
  have t6 := t5.trans (c6.mono t5.size)
  have c_6 := c_r.below a6
  clear Ax0 Ax1 D_5 G_5 d_5 r_5 A_5 B_5 a_5 t5 c_r a6 b6 c6
  go_upto_region 9 with (fail)
  generalize World.alloc w6 (.cells #[.slice ab6 12 cb6, .slice ac6 0 cc6] 29) = W6 at *
  have Cx0 := cell2_0 C_6
  have Cx1 := cell2_1 C_6
  go_wp2_with fail
  refine (HR.out _ _ c_6 (hT.out.below t6)).mono ?_
  rintro e w7 ⟨ab7, cb7, ac7, cc7, al7, cl7, rfl, e_r, m_r, b7⟩
  obtain ⟨E_7, F_7, _, a7⟩ := alloc2 w7 (.cells #[.slice ab7 12 cb7, .slice ac7 cn cc7] 29) (.cells #[.int .u64 1, .int .i64 ((sizeJ (withS (putN 1) l) : Nat) : Int)] 32)
  have c7 := b7.trans (a7.mono b7.size)
  have D_7 := heap_below D_6 c7
  have G_7 := heap_below G_6 c7
  have d_7 := d_6.below c7
  have r_7 := r_6.below c7
  have A_7 := heap_below A_6 c7
  have B_7 := heap_below B_6 c7
  have a_7 := a_6.below c7
  have C_7 := heap_below C_6 c7
  have c_7 := c_6.below c7
  have t7 := t6.trans (c7.mono t6.size)
  have e_7 := e_r.below a7
  have m_7 := m_r.below a7
  clear Cx0 Cx1 D_6 G_6 d_6 r_6 A_6 B_6 a_6 C_6 c_6 t6 e_r m_r a7 b7 c7
  go_upto_region 10 with (fail)
  generalize (World.alloc (World.alloc w7 (.cells #[.slice ab7 12 cb7, .slice ac7 cn cc7] 29)) (.cells #[.int .u64 1, .int .i64 ((sizeJ (withS (putN 1) l) : Nat) : Int)] 32)) = W7 at *
  have Fx0 := cell2_0 F_7
  have Fx1 := cell2_1 F_7
  have MR := Lib.hid (And.intro m_7 r_7)
  have Hl2 := Lib.hid (show ((l.length : Int) != (L.length : Int)) = false ∨ (((l.length : Int) != (L.length : Int)) = true ∧ ((l.length : Int) != (L.length : Int) + 1) = false) from by
    rcases Hl.out with e | e
    · exact .inl (by rw [e]; simp)
    · exact .inr ⟨by rw [e]; simp; omega, by rw [e]; simp⟩)
  have FA := Lib.hid (And.intro D_7 (And.intro G_7 (And.intro d_7 (And.intro r_7 (And.intro A_7 (And.intro B_7 (And.intro a_7 (And.intro C_7 (And.intro c_7 (And.intro E_7 (And.intro F_7 (And.intro e_7 (And.intro m_7 t7)))))))))))))
  rcases Hl2.out with hb1 | ⟨hb1, hb2⟩
  all_goals
    clear D_7 G_7 d_7 r_7 A_7 B_7 a_7 C_7 c_7 E_7 F_7 e_7 m_7 t7
    go_upto_region 14 with (fail)
    go_wp2
    go_loopw [24] (fun i wr => ∃ j : Nat, i = .int .i64 (j : Int) ∧ j ≤ l.length ∧ Below W7.heap.size W7 wr) (fun i _ => l.length - (intOf i).toNat)
    case atStart => exact ⟨0, rfl, Nat.zero_le _, Below.refl _ _⟩
    case round =>
      obtain ⟨j, rfl, hj, hbl⟩ := hrel
      by_cases hjl : j < l.length
      · have g1 : decide (j < l.length) = true := by simp; omega
        have g2 : decide ((j : Int) < (l.length : Int)) = true := by simp; omega
        have R1 := MR.out.1.below hbl
        have R2 := MR.out.2.below hbl
        rcases torn_get Hl.out hjl with ⟨hjL, y, e1, e2⟩ | ⟨hjL, e1⟩
        · obtain ⟨a1, rfl, u1⟩ := str_cell R1 e1
          obtain ⟨a2, rfl, u2⟩ := str_cell R2 e2
          have g3 : decide (j < L.length) = true := by simp; omega
          have g4 : decide ((j : Int) < (L.length : Int)) = true := by simp; omega
          have g5 : ((j : Int) == (L.length : Int)) = false := by simp; omega
          have g6 : (y != y) = false := by simp
          clear e1 e2 R1 R2
          go_upto_region 17 with (fail)
          go_quiet (fail)
          go_wp2
          exact ⟨⟨j + 1, by go_num, hjl, below_drewN hbl _⟩, by simp [intOf]; omega⟩
        · obtain ⟨a1, rfl, u1⟩ := str_cell R1 e1
          have g3 : decide (j < L.length) = false := by simp; omega
          have g4 : decide ((j : Int) < (L.length : Int)) = false := by simp; omega
          have g5 : ((j : Int) == (L.length : Int)) = true := by simp; omega
          have g6 : (x != x) = false := by simp
          clear e1 R1 R2 hjL
          go_upto_region 17 with (fail)
          go_quiet (fail)
          go_wp2
          exact ⟨⟨j + 1, by go_num, hjl, below_drewN hbl _⟩, by simp [intOf]; omega⟩
      · have g1 : decide (j < l.length) = false := by simp; omega
        have g2 : decide ((j : Int) < (l.length : Int)) = false := by simp; omega
        obtain ⟨D_7, G_7, d_7, r_7, A_7, B_7, a_7, C_7, c_7, E_7, F_7, e_7, m_7, t7⟩ := FA.out
        clear FA hj hjl
        have D_8 := heap_below D_7 hbl
        have G_8 := heap_below G_7 hbl
        have d_8 := d_7.below hbl
        have r_8 := r_7.below hbl
        have A_8 := heap_below A_7 hbl
        have B_8 := heap_below B_7 hbl
        have a_8 := a_7.below hbl
        have C_8 := heap_below C_7 hbl
        have c_8 := c_7.below hbl
        have E_8 := heap_below E_7 hbl
        have F_8 := heap_below F_7 hbl
        have e_8 := e_7.below hbl
        have m_8 := m_7.below hbl
        have t8 := t7.trans (hbl.mono t7.size)
        clear D_7 G_7 d_7 r_7 A_7 B_7 a_7 C_7 c_7 E_7 F_7 e_7 m_7 t7 hbl
        have Ex0 := cell2_0 E_8
        have Ex1 := cell2_1 E_8
        have Fx0 := cell2_0 F_8
        have Fx1 := cell2_1 F_8
        go_wp2_with fail
        refine (HA2.out _ _ e_8 (hT.out.below t8)).mono ?_
        rintro e w9 ⟨ab9, cb9, ac9, cc9, rfl, x_r, b9⟩
        obtain ⟨X_9, Y_9, -, a9⟩ := alloc2 w9 (.cells #[.slice ab9 12 cb9, .slice ac9 Xn cc9] 29) (.cells #[.int .u64 1, .int .i64 ((sizeJ (withS (putN 1) M) : Nat) : Int)] 32)
        have c9 := b9.trans (a9.mono b9.size)
        have D_9 := heap_below D_8 c9
        have G_9 := heap_below G_8 c9
        have d_9 := d_8.below c9
        have r_9 := r_8.below c9
        have A_9 := heap_below A_8 c9
        have B_9 := heap_below B_8 c9
        have a_9 := a_8.below c9
        have C_9 := heap_below C_8 c9
        have c_9 := c_8.below c9
        have E_9 := heap_below E_8 c9
        have F_9 := heap_below F_8 c9
        have e_9 := e_8.below c9
        have m_9 := m_8.below c9
        have t9 := t8.trans (c9.mono t8.size)
        have x_9 := x_r.below a9
        clear Ex0 Ex1 Fx0 Fx1 D_8 G_8 d_8 r_8 A_8 B_8 a_8 C_8 c_8 E_8 F_8 e_8 m_8 t8 x_r a9 b9 c9
        go_upto_region 20 with (fail)
        generalize (World.alloc (World.alloc w9 (.cells #[.slice ab9 12 cb9, .slice ac9 Xn cc9] 29)) (.cells #[.int .u64 1, .int .i64 ((sizeJ (withS (putN 1) M) : Nat) : Int)] 32)) = W9 at *
        have Xx0 := cell2_0 X_9
        have Xx1 := cell2_1 X_9
        have Yx0 := cell2_0 Y_9
        have Yx1 := cell2_1 Y_9
        have Ax0 := cell2_0 A_9
        have Ax1 := cell2_1 A_9
        have Gx0 := cell2_0 G_9
        have Gx1 := cell2_1 G_9
        have B := Lib.hid (Below.refl W9.heap.size W9).drew
        have T := Lib.hid t9
        have BR := Lib.hid (Below.refl W9.heap.size W9)
        have XX := Lib.hid x_9
        have AA := Lib.hid a_9
        have MM := Lib.hid m_9
        have RR := Lib.hid r_9
        clear D_9 G_9 d_9 r_9 A_9 B_9 a_9 C_9 c_9 E_9 F_9 e_9 m_9 X_9 Y_9 x_9 t9
        have hLn := HP.out.1
        go_region_held3 (fun V => V.cell? { block := w9.heap.size, off := 0, spot := none } = some (.slice ab9 12 cb9) ∧ V.cell? { block := w9.heap.size, off := 1, spot := none } = some (.slice ac9 Xn cc9) ∧ V.cell? { block := w9.heap.size + 1, off := 0, spot := none } = some (.int .u64 1) ∧ V.cell? { block := w9.heap.size + 1, off := 1, spot := none } = some (.int .i64 ((sizeJ (withS (putN 1) M) : Nat) : Int)) ∧ V.cell? { block := w5.heap.size, off := 0, spot := none } = some (.slice ab5 12 cb5) ∧ V.cell? { block := w5.heap.size, off := 1, spot := none } = some (.slice ac5 1 cc5) ∧ V.cell? { block := w2.heap.size + 1, off := 1, spot := none } = some (.int .i64 ((sizeJ (withS (putN 1) L) : Nat) : Int)))
          ((first | (with_reducible exact ⟨cell_below B.out Xx0, cell_below B.out Xx1, cell_below B.out Yx0, cell_below B.out Yx1, cell_below B.out Ax0, cell_below B.out Ax1, cell_below B.out Gx1⟩) | (with_reducible exact ⟨cell_below (B.out.alloc B.out.size _) Xx0, cell_below (B.out.alloc B.out.size _) Xx1, cell_below (B.out.alloc B.out.size _) Yx0, cell_below (B.out.alloc B.out.size _) Yx1, cell_below (B.out.alloc B.out.size _) Ax0, cell_below (B.out.alloc B.out.size _) Ax1, cell_below (B.out.alloc B.out.size _) Gx1⟩) | (with_reducible exact ⟨cell_below (BR.out.alloc BR.out.size _).drew Xx0, cell_below (BR.out.alloc BR.out.size _).drew Xx1, cell_below (BR.out.alloc BR.out.size _).drew Yx0, cell_below (BR.out.alloc BR.out.size _).drew Yx1, cell_below (BR.out.alloc BR.out.size _).drew Ax0, cell_below (BR.out.alloc BR.out.size _).drew Ax1, cell_below (BR.out.alloc BR.out.size _).drew Gx1⟩) | go_keep))
          (first
          | (have _gate := MM.out; go_at_call 34; refine (OwnTexts_any l _ _ (MM.out.below (by first | with_reducible exact B.out | with_reducible exact B.out.alloc B.out.size _ | with_reducible exact (BR.out.alloc BR.out.size _).drew)) (by omega)).mono ?_; rintro e u1 ⟨adp, cp, rfl, tx, yp⟩
             have hsp := below_pre13 (by first | with_reducible exact B.out | with_reducible exact B.out.alloc B.out.size _ | with_reducible exact (BR.out.alloc BR.out.size _).drew) yp
             have TXp := Lib.hid (Txt.lower tx hsp); have Bp := Lib.hid (below_call13 (by first | with_reducible exact B.out | with_reducible exact B.out.alloc B.out.size _ | with_reducible exact (BR.out.alloc BR.out.size _).drew) yp)
             clear B MM; have B := Bp)
          | (have _gate := TXp.out; rw [if_pos (show Region.wanted _ _ = true by kernel_rfl)]; refine wp_app_txts (v := .slice adp (List.length l) cp) (l2 := [[108, 97, 115, 116]]) (by rfl) W9.heap.size (by rfl) (by first | with_reducible exact TXp.out | with_reducible exact TXp.out.alloc _) (by rfl) (by first | with_reducible exact row_lit13 _ _ | with_reducible exact (row_lit13 _ _).below yp | with_reducible exact (row_lit13 _ _).drew.below yp | exact (row_lit13 _ _).below yp) (by omega) (by first | with_reducible exact B.out.size | exact Nat.le_trans B.out.size (by simp)) ?_; intro vp u2 tv b2 gr
             have Rp := Lib.hid (by rw [HM.out]; exact Row.of_own tv : Row u2 1 vp M.length (strVals M)); have Bp := Lib.hid (Below.trans (by first | with_reducible exact B.out | with_reducible exact B.out.alloc B.out.size _ | with_reducible exact (BR.out.alloc BR.out.size _).drew) b2)
             clear B TXp; have B := Bp)
          | (have _gate := Rp.out; go_at_call 29; refine (HG1.out _ _ _ (XX.out.below B.out) Rp.out (hT.out.below (below_call13 T.out B.out))).mono ?_; rintro e u3 ⟨rfl, y3⟩
             have Bp := Lib.hid (below_call13 B.out y3)
             clear B Rp; have B := Bp)
          | (go_at_call 34; refine (OwnTexts_any L _ _ (RR.out.below (by first | with_reducible exact B.out | with_reducible exact B.out.alloc B.out.size _ | with_reducible exact (BR.out.alloc BR.out.size _).drew)) (by omega)).mono ?_; rintro e u1 ⟨adq, cq, rfl, tx, yq⟩
             have hsq := below_pre13 (by first | with_reducible exact B.out | with_reducible exact B.out.alloc B.out.size _ | with_reducible exact (BR.out.alloc BR.out.size _).drew) yq
             have TXq := Lib.hid (Txt.lower tx hsq); have Bq := Lib.hid (below_call13 (by first | with_reducible exact B.out | with_reducible exact B.out.alloc B.out.size _ | with_reducible exact (BR.out.alloc BR.out.size _).drew) yq)
             clear B RR; have B := Bq)
          | (have _gate := TXq.out; rw [if_pos (show Region.wanted _ _ = true by kernel_rfl)]; refine wp_app_txts (v := .slice adq (List.length L) cq) (l2 := [x]) (by rfl) W9.heap.size (by rfl) (by first | with_reducible exact TXq.out | with_reducible exact TXq.out.alloc _) (by rfl) (by first | with_reducible exact row_lit13 _ _ | with_reducible exact (row_lit13 _ _).below yq | with_reducible exact (row_lit13 _ _).drew.below yq | exact (row_lit13 _ _).below yq) (by omega) (by first | with_reducible exact B.out.size | exact Nat.le_trans B.out.size (by simp)) ?_; intro vq u2 tv b2 gr
             have Rq := Lib.hid (by rw [HL2.out]; exact Row.of_own tv : Row u2 1 vq L2.length (strVals L2)); have Bq := Lib.hid (Below.trans (by first | with_reducible exact B.out | with_reducible exact B.out.alloc B.out.size _ | with_reducible exact (BR.out.alloc BR.out.size _).drew) b2)
             clear B TXq; have B := Bq)
          | (go_at_call 29; refine (HG2.out _ _ _ (AA.out.below B.out) Rq.out (hT.out.below (below_call13 T.out B.out))).mono ?_; rintro e u3 ⟨rfl, y3⟩
             have Bq := Lib.hid (below_call13 B.out y3)
             clear B Rq; have B := Bq)
          | fail)
        all_goals go_wp2
        all_goals go_ret
        all_goals exact ⟨rfl, below_call13 T.out B.out⟩
end Go.Proofs.YtmfbkelhegdmpaaGreatDoor
