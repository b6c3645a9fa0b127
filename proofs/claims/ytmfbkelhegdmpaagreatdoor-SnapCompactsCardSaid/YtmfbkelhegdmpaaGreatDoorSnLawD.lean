/- The walk of SnapCompacts, chapter 13 (snap). -/
import Derived.Test.YtmfbkelhegdmpaaGreatDoorSnLawK
import Derived.Test.YtmfbkelhegdmpaaGreatDoorSnLawN
import Derived.Test.YtmfbkelhegdmpaaGreatDoorSnLawX
import Derived.Test.YtmfbkelhegdmpaaGreatDoorSnLawW
import Derived.Test.YtmfbkelhegdmpaaGreatDoorSnapN
namespace Go.Proofs.YtmfbkelhegdmpaaGreatDoor
open Go.RowKit Disk11 Journal12 Sum2

set_option maxHeartbeats 8000000 in
set_option maxRecDepth 100000 in
theorem SnapCompacts_any (nums : List Int) (v : Value) (more n : Int) (w : World) (hm : I64 more) (hn : I64 n) (hwf : ∀ n ∈ nums, I64 n) (hr : Row w 1 v nums.length (nums.map fun n => .int .i64 n)) (ht : Tab w) :
    Calls Tryz.prog 9 #[v, .int .i64 more, .int .i64 n] w fun e w' => e = .returned (.bool true) ∧ Below w.heap.size w w' := by
  have HS := Lib.hid (fun W t => SnapKnown_any W t)
  have HW := Lib.hid (fun W r t => written_any13 nums v W hwf r t)
  have HX := Lib.hid (fun W => text_any13 more hm W)
  have Hn := Lib.hid hn
  have hT := Lib.hid ht
  have p_0 := hr
  have t0 := Below.refl w.heap.size w
  clear ht hr hm hn
  go_enter Tryz.func9, Tryz.ntmps9
  go_wp2_with fail
  refine (HS.out _ (hT.out.below t0)).mono ?_
  rintro e w1 ⟨rfl, b1⟩
  have p_1 := p_0.below b1
  have t1 := t0.trans (b1.mono t0.size)
  clear p_0 t0 b1
  go_wp2_with fail
  refine (HW.out _ p_1 (hT.out.below t1)).mono ?_
  rintro e w2 ⟨D, L, ab2, cb2, ac2, cc2, al2, cl2, rfl, P1, P2, P3, P4, d_r, r_r, b2⟩
  have gw : w.heap.size ≤ w2.heap.size := (t1.trans (b2.mono t1.size)).size
  obtain ⟨D_2, G_2, _, a2⟩ := alloc2 w2 (.cells #[.slice ab2 D.1.length cb2, .slice ac2 D.2.length cc2] 29) (.cells #[.int .u64 1, .int .i64 ((sizeJ (withS (putN 1) L) : Nat) : Int)] 32)
  have c2 := b2.trans (a2.mono b2.size)
  have p_2 := p_1.below c2
  have t2 := t1.trans (c2.mono t1.size)
  have d_2 := d_r.below a2
  have r_2 := r_r.below a2
  clear p_1 t1 d_r r_r a2 b2 c2
  go_upto_region 3 with (fail)
  generalize (World.alloc (World.alloc w2 (.cells #[.slice ab2 D.1.length cb2, .slice ac2 D.2.length cc2] 29)) (.cells #[.int .u64 1, .int .i64 ((sizeJ (withS (putN 1) L) : Nat) : Int)] 32)) = W2 at *
  clear p_2
  have r_2 := Row.of_own r_2
  obtain ⟨S, hS0, hS1, hS2, P5⟩ := synced_plain P1
  have HY := Lib.hid (fun v W h => sync_open (w := W) (v := v) hS0 h)
  have HP := Lib.hid (And.intro P3 (And.intro P4 P5))
  rw [hS1, hS2] at HY
  clear P1 P2 P3 P4 P5 hS0
  have Dx0 := cell2_0 D_2
  have Dx1 := cell2_1 D_2
  go_wp2_with fail
  refine (HY.out _ _ d_2).mono ?_
  rintro e w3 ⟨ab3, cb3, ac3, cc3, rfl, d_r, b3⟩
  clear Dx0 Dx1
  have D_q := heap_below D_2 b3
  have G_q := heap_below G_2 b3
  have d_q := d_2.below b3
  have r_q := r_2.below b3
  have tq := t2.trans (b3.mono t2.size)
  have DN := no_str D_q (by simp)
  have Dc0 := cell2_0 D_q
  have Dz0 := frozen2 D_q 0
  have Dc1 := cell2_1 D_q
  have Dz1 := frozen2 D_q 1
  go_upto_region 4 with (fail)
  have D_3 := set_two (x' := (.slice ab3 12 cb3)) (y' := (.slice ac3 0 cc3)) (D_q)
  have G_3 := other_set (j := 1) (other_set (j := 0) (G_q) (show w2.heap.size + 1 ≠ w2.heap.size by omega) (.slice ab3 12 cb3)) (show w2.heap.size + 1 ≠ w2.heap.size by omega) (.slice ac3 0 cc3)
  have d_3 := disk_aside (j := 1) (u := (.slice ac3 0 cc3)) (disk_aside (j := 0) (u := (.slice ab3 12 cb3)) (d_r) (DN)) (nostr_set (g := w2.heap.size) (j := 0) (u := (.slice ab3 12 cb3)) (DN) (by simp))
  have r_3 := row_aside (j := 1) (u := (.slice ac3 0 cc3)) (row_aside (j := 0) (u := (.slice ab3 12 cb3)) (r_q) (DN)) (nostr_set (g := w2.heap.size) (j := 0) (u := (.slice ab3 12 cb3)) (DN) (by simp))
  have d_3 := disk_aside (j := 1) (u := (.slice ac3 0 cc3)) (disk_aside (j := 0) (u := (.slice ab3 12 cb3)) (d_r) (DN)) (nostr_set (g := w2.heap.size) (j := 0) (u := (.slice ab3 12 cb3)) (DN) (by simp))
  have t3 := below_set (j := 1) (u := (.slice ac3 0 cc3)) (below_set (j := 0) (u := (.slice ab3 12 cb3)) (tq) (by omega : w.heap.size ≤ w2.heap.size)) (by omega : w.heap.size ≤ w2.heap.size)
  generalize (World.setCell (World.setCell w3 ⟨w2.heap.size, 0, none⟩ (.slice ab3 12 cb3)) ⟨w2.heap.size, 1, none⟩ (.slice ac3 0 cc3)) = W3 at *
  clear D_2 G_2 d_2 r_2 t2 b3 tq DN Dc0 Dz0 Dc1 Dz1 D_q G_q d_q r_q d_r
  go_wp2_with fail
  refine (HX.out _).mono ?_
  rintro e w4 ⟨x, hx, rfl, b4⟩
  have D_4 := heap_below D_3 b4
  have G_4 := heap_below G_3 b4
  have d_4 := d_3.below b4
  have r_4 := r_3.below b4
  have t4 := t3.trans (b4.mono t3.size)
  clear D_3 G_3 d_3 r_3 t3 b4
  obtain ⟨A, hA0, hA2, hA3, hA4, ⟨B0, B1, hB0, hB1, hB2⟩, hA5⟩ := comp_plain HP.out.2.2 hS2 hx
  have HA := Lib.hid (fun v W h t => (Compact_any13 S v 1 ((sizeJ (withS (putN 1) L) : Nat) : Int) x W (by decide) (by omega) h t).mono (fun _ _ => snap_open hA0))
  rw [hA2, hA3, show ((0 : Nat) : Int) = 0 from rfl, show ((2 : Nat) : Int) = 2 from rfl] at HA
  have HC := Lib.hid (fun v W h => crash_some A v n Hn.out W h (by omega) hA4 (fun k t hk ht => by obtain ⟨C, _, _, _, _, hc, _⟩ := hA5 k t hk ht; exact ⟨C, hc⟩))
  have HQ := Lib.hid hA5
  have Hx := Lib.hid hx
  have HG2 := Lib.hid (fun v W hd t => gives_any A B0 B1 v (.slice none 0 0) x 2 0 [] W hd (Row.nil _ _) t hB0 hB1 hB2 (by decide))
  rw [show ((2 : Nat) : Int) = 2 from rfl] at HG2
  clear hA0 hA2 hA3 hA4 hA5 hx hS1 hS2 hB0 hB1 hB2
  have Dx0 := cell2_0 D_4
  have Dx1 := cell2_1 D_4
  have Gx0 := cell2_0 G_4
  have Gx1 := cell2_1 G_4
  go_wp2_with fail
  refine (HA.out _ _ d_4 (hT.out.below t4)).mono ?_
  rintro e w5 ⟨ab5, cb5, ac5, cc5, rfl, a_r, b5⟩
  obtain ⟨A_5, B_5, _, a5⟩ := alloc2 w5 (.cells #[.slice ab5 12 cb5, .slice ac5 4 cc5] 29) (.cells #[.int .u64 2, .int .i64 0] 32)
  have c5 := b5.trans (a5.mono b5.size)
  have D_5 := heap_below D_4 c5
  have G_5 := heap_below G_4 c5
  have d_5 := d_4.below c5
  have r_5 := r_4.below c5
  have t5 := t4.trans (c5.mono t4.size)
  have a_5 := a_r.below a5
  clear Dx0 Dx1 Gx0 Gx1 D_4 G_4 d_4 r_4 t4 a_r a5 b5 c5
  go_upto_region 8 with (fail)
  generalize (World.alloc (World.alloc w5 (.cells #[.slice ab5 12 cb5, .slice ac5 4 cc5] 29)) (.cells #[.int .u64 2, .int .i64 0] 32)) = W5 at *
  have Ax0 := cell2_0 A_5
  have Ax1 := cell2_1 A_5
  go_wp2_with fail
  refine (HC.out _ _ a_5).mono ?_
  rintro e w6 ⟨k, t, C, ab6, cb6, ac6, cc6, hk, ht, hC, rfl, c_r, b6⟩
  obtain ⟨C', c, g, s, l, q1, q2, q3, q4, q5, q6⟩ := HQ.out k t hk ht
  rw [hC] at q1
  obtain rfl : C = C' := congrArg (fun r : Dev × Nat => r.1.1) q1
  rw [q2] at c_r ⊢
  have HR := Lib.hid (fun v W h t => (Recover_any13 (C, []) v W h t).mono (fun _ _ => rec_open q3))
  have q4l : c.1.length = 12 := q4.2.1
  obtain ⟨cn, hcn⟩ : ∃ cn, cn = c.2.length := ⟨_, rfl⟩
  rw [q4l, ← hcn, show ((0 : Nat) : Int) = 0 from rfl] at HR
  have h6 := HP.out.1
  have hg12 : g = 1 ∨ g = 2 := by rcases q6 with ⟨e, _⟩ | ⟨e, _⟩; exact .inl e; exact .inr e
  have hl7 : l.length ≤ 7 := by rcases q6 with ⟨_, _, e⟩ | ⟨_, _, e⟩ <;> rw [e] <;> first | omega | simp
  have hls : ∀ y ∈ l, y.length ≤ 12 := by
    intro y hy
    rcases q6 with ⟨_, _, e⟩ | ⟨_, _, e⟩
    · rw [e] at hy; exact HP.out.2.1 y hy
    · rw [e] at hy; simp at hy
  obtain ⟨X, y1, y2, y3, y4⟩ := last_plain q4 hg12 q5 hl7 hls (show ([108, 97, 115, 116] : List UInt8).length ≤ 12 by decide)
  obtain ⟨M, hM⟩ : ∃ M, M = l ++ [[108, 97, 115, 116]] := ⟨_, rfl⟩
  obtain ⟨Xn, hXn⟩ : ∃ n, n = X.2.length := ⟨_, rfl⟩
  rw [← hM] at y1 y2
  have HA2 := Lib.hid (fun v W h t => (Append_any13 c v g ((sizeJ (withS (putN g) l) : Nat) : Int) [108, 97, 115, 116] W (by omega) (by decide) h t).mono (fun _ _ => snap_open y1))
  rw [y3, ← hXn, show ((0 : Nat) : Int) = 0 from rfl] at HA2
  have HG1 := Lib.hid (fun v vl W hd hr t => laid_gives y2 (by decide) (by rw [hM]; simp; omega) v vl W hd hr t)
  have HM := Lib.hid hM
  have HT := Lib.hid (fun va vb W ha hb => SameTexts_any L L va vb W ha hb (by omega))
  rw [decide_eq_true rfl] at HT
  have hZ0 := size12 HP.out.2.1
  have eqZ := eq_log_same 1 ((sizeJ (withS (putN 1) L) : Nat) : Int)
  have eq12 : ∀ W, (binOp .eql 32 (.agg #[.int .u64 1, .int .i64 ((sizeJ (withS (putN 1) L) : Nat) : Int)]) (.agg #[.int .u64 2, .int .i64 0])).run Tryz.prog W = .ok (.bool false) W := fun W => by rw [eq_log]; rfl
  have eq21 : ∀ W, (binOp .eql 32 (.agg #[.int .u64 2, .int .i64 0]) (.agg #[.int .u64 1, .int .i64 ((sizeJ (withS (putN 1) L) : Nat) : Int)])).run Tryz.prog W = .ok (.bool false) W := fun W => by rw [eq_log]; rfl
  have eq20 := eq_log_same 2 0
  have hxx : (x == x) = true := beq_self_eq_true _
  have hl64 : l.length ≤ 7 := hl7
  clear q1 q2 q3 q4 q5 q4l hcn hls hl7 y1 y2 y3 y4 hM hXn hk ht hC HQ HC hg12 hZ0
  have a6 := Go.Joins.below_alloc1 w6 (.cells #[.slice ab6 12 cb6, .slice ac6 0 cc6] 29)
  have C_6 := World.alloc_heap_new w6 (.cells #[.slice ab6 12 cb6, .slice ac6 0 cc6] 29)
  have c6 := b6.trans (a6.mono b6.size)
  have D_6 := heap_below D_5 c6
  have G_6 := heap_below G_5 c6
  have d_6 := d_5.below c6
  have r_6 := r_5.below c6
  have A_6 := heap_below A_5 c6
  have B_6 := heap_below B_5 c6
  have a_6 := a_5.below c6
  have t6 := t5.trans (c6.mono t5.size)
  have c_6 := c_r.below a6
  clear Ax0 Ax1 D_5 G_5 d_5 r_5 A_5 B_5 a_5 t5 c_r a6 b6 c6
  go_upto_region 9 with (fail)
  generalize World.alloc w6 (.cells #[.slice ab6 12 cb6, .slice ac6 0 cc6] 29) = W6 at *
  rcases q6 with ⟨rfl, rfl, hlL⟩ | ⟨rfl, hsx, rfl⟩
  · have hlL := hlL.symm
    subst hlL
    rw [show ((1 : Nat) : Int) = 1 from rfl] at HR HA2 HG1
    have Cx0 := cell2_0 C_6
    have Cx1 := cell2_1 C_6
    go_wp2_with fail
    refine (HR.out _ _ c_6 (hT.out.below t6)).mono ?_
    rintro e w7 ⟨ab7, cb7, ac7, cc7, al7, cl7, rfl, e_r, m_r, b7⟩
    obtain ⟨E_7, F_7, _, a7⟩ := alloc2 w7 (.cells #[.slice ab7 12 cb7, .slice ac7 cn cc7] 29) (.cells #[.int .u64 1, .int .i64 ((sizeJ (withS (putN 1) L) : Nat) : Int)] 32)
    have c7 := b7.trans (a7.mono b7.size)
    have D_7 := heap_below D_6 c7
    have G_7 := heap_below G_6 c7
    have d_7 := d_6.below c7
    have r_7 := r_6.below c7
    have A_7 := heap_below A_6 c7
    have B_7 := heap_below B_6 c7
    have a_7 := a_6.below c7
    have C_7 := heap_below C_6 c7
    have c_7 := c_6.below c7
    have t7 := t6.trans (c7.mono t6.size)
    have e_7 := e_r.below a7
    have m_7 := m_r.below a7
    clear Cx0 Cx1 D_6 G_6 d_6 r_6 A_6 B_6 a_6 C_6 c_6 t6 e_r m_r a7 b7 c7
    go_upto_region 10 with (fail)
    generalize (World.alloc (World.alloc w7 (.cells #[.slice ab7 12 cb7, .slice ac7 cn cc7] 29)) (.cells #[.int .u64 1, .int .i64 ((sizeJ (withS (putN 1) L) : Nat) : Int)] 32)) = W7 at *
    have Fx0 := cell2_0 F_7
    have Fx1 := cell2_1 F_7
    have Gx0 := cell2_0 G_7
    have Gx1 := cell2_1 G_7
    go_wp2_with fail
    refine (HT.out _ _ _ m_7 r_7).mono ?_
    rintro e w8 ⟨rfl, b8⟩
    have D_8 := heap_below D_7 b8
    have G_8 := heap_below G_7 b8
    have d_8 := d_7.below b8
    have r_8 := r_7.below b8
    have A_8 := heap_below A_7 b8
    have B_8 := heap_below B_7 b8
    have a_8 := a_7.below b8
    have C_8 := heap_below C_7 b8
    have c_8 := c_7.below b8
    have E_8 := heap_below E_7 b8
    have F_8 := heap_below F_7 b8
    have e_8 := e_7.below b8
    have m_8 := m_7.below b8
    have t8 := t7.trans (b8.mono t7.size)
    clear Fx0 Fx1 Gx0 Gx1 D_7 G_7 d_7 r_7 A_7 B_7 a_7 C_7 c_7 E_7 F_7 e_7 m_7 t7 b8
    have Fx0 := cell2_0 F_8
    have Fx1 := cell2_1 F_8
    go_upto_region 16 with (fail)
    clear Fx0 Fx1
    have Ex0 := cell2_0 E_8
    have Ex1 := cell2_1 E_8
    have Fx0 := cell2_0 F_8
    have Fx1 := cell2_1 F_8
    go_wp2_with fail
    refine (HA2.out _ _ e_8 (hT.out.below t8)).mono ?_
    rintro e w9 ⟨ab9, cb9, ac9, cc9, rfl, x_r, b9⟩
    obtain ⟨X_9, Y_9, -, a9⟩ := alloc2 w9 (.cells #[.slice ab9 12 cb9, .slice ac9 Xn cc9] 29) (.cells #[.int .u64 1, .int .i64 ((sizeJ (withS (putN 1) M) : Nat) : Int)] 32)
    have c9 := b9.trans (a9.mono b9.size)
    have D_9 := heap_below D_8 c9
    have G_9 := heap_below G_8 c9
    have d_9 := d_8.below c9
    have r_9 := r_8.below c9
    have A_9 := heap_below A_8 c9
    have B_9 := heap_below B_8 c9
    have a_9 := a_8.below c9
    have C_9 := heap_below C_8 c9
    have c_9 := c_8.below c9
    have E_9 := heap_below E_8 c9
    have F_9 := heap_below F_8 c9
    have e_9 := e_8.below c9
    have m_9 := m_8.below c9
    have t9 := t8.trans (c9.mono t8.size)
    have x_9 := x_r.below a9
    clear Ex0 Ex1 Fx0 Fx1 D_8 G_8 d_8 r_8 A_8 B_8 a_8 C_8 c_8 E_8 F_8 e_8 m_8 t8 x_r a9 b9 c9
    go_upto_region 17 with (fail)
    generalize (World.alloc (World.alloc w9 (.cells #[.slice ab9 12 cb9, .slice ac9 Xn cc9] 29)) (.cells #[.int .u64 1, .int .i64 ((sizeJ (withS (putN 1) M) : Nat) : Int)] 32)) = W9 at *
    have Xx0 := cell2_0 X_9
    have Xx1 := cell2_1 X_9
    have Yx0 := cell2_0 Y_9
    have Yx1 := cell2_1 Y_9
    have Ax0 := cell2_0 A_9
    have Ax1 := cell2_1 A_9
    have B := Lib.hid (Below.refl W9.heap.size W9).drew
    have T := Lib.hid t9
    have BR := Lib.hid (Below.refl W9.heap.size W9)
    have XX := Lib.hid x_9
    have AA := Lib.hid a_9
    have MM := Lib.hid m_9
    clear D_9 G_9 d_9 r_9 A_9 B_9 a_9 C_9 c_9 E_9 F_9 e_9 m_9 X_9 Y_9 x_9 t9
    go_region_held3 (fun V => V.cell? { block := w9.heap.size, off := 0, spot := none } = some (.slice ab9 12 cb9) ∧ V.cell? { block := w9.heap.size, off := 1, spot := none } = some (.slice ac9 Xn cc9) ∧ V.cell? { block := w9.heap.size + 1, off := 0, spot := none } = some (.int .u64 1) ∧ V.cell? { block := w9.heap.size + 1, off := 1, spot := none } = some (.int .i64 ((sizeJ (withS (putN 1) M) : Nat) : Int)) ∧ V.cell? { block := w5.heap.size, off := 0, spot := none } = some (.slice ab5 12 cb5) ∧ V.cell? { block := w5.heap.size, off := 1, spot := none } = some (.slice ac5 4 cc5))
      ((first | (with_reducible exact ⟨cell_below B.out Xx0, cell_below B.out Xx1, cell_below B.out Yx0, cell_below B.out Yx1, cell_below B.out Ax0, cell_below B.out Ax1⟩) | (with_reducible exact ⟨cell_below (B.out.alloc B.out.size _) Xx0, cell_below (B.out.alloc B.out.size _) Xx1, cell_below (B.out.alloc B.out.size _) Yx0, cell_below (B.out.alloc B.out.size _) Yx1, cell_below (B.out.alloc B.out.size _) Ax0, cell_below (B.out.alloc B.out.size _) Ax1⟩) | (with_reducible exact ⟨cell_below (BR.out.alloc BR.out.size _).drew Xx0, cell_below (BR.out.alloc BR.out.size _).drew Xx1, cell_below (BR.out.alloc BR.out.size _).drew Yx0, cell_below (BR.out.alloc BR.out.size _).drew Yx1, cell_below (BR.out.alloc BR.out.size _).drew Ax0, cell_below (BR.out.alloc BR.out.size _).drew Ax1⟩) | go_keep))
      (first
      | (have _gate := MM.out; go_at_call 34; refine (OwnTexts_any L _ _ (MM.out.below (by first | with_reducible exact B.out | with_reducible exact B.out.alloc B.out.size _ | with_reducible exact (BR.out.alloc BR.out.size _).drew)) (by first | omega | decide)).mono ?_; rintro e u1 ⟨adp, cp, rfl, tx, yp⟩
         have hsp := below_pre13 (by first | with_reducible exact B.out | with_reducible exact B.out.alloc B.out.size _ | with_reducible exact (BR.out.alloc BR.out.size _).drew) yp
         have TXp := Lib.hid (Txt.lower tx hsp); have Bp := Lib.hid (below_call13 (by first | with_reducible exact B.out | with_reducible exact B.out.alloc B.out.size _ | with_reducible exact (BR.out.alloc BR.out.size _).drew) yp)
         clear B MM; have B := Bp)
      | (have _gate := TXp.out; rw [if_pos (show Region.wanted _ _ = true by kernel_rfl)]; refine wp_app_txts (v := .slice adp (List.length L) cp) (l := L) (l2 := [[108, 97, 115, 116]]) (by rfl) W9.heap.size (by rfl) (by first | with_reducible exact TXp.out | with_reducible exact TXp.out.alloc _ | exact TXp.out | exact TXp.out.alloc _) (by rfl) (by first | with_reducible exact row_lit13 _ _ | with_reducible exact (row_lit13 _ _).below yp | with_reducible exact (row_lit13 _ _).drew.below yp | exact (row_lit13 _ _).below yp) (by first | omega | decide) (by first | with_reducible exact B.out.size | exact Nat.le_trans B.out.size (by simp)) ?_; intro vp u2 tv b2 gr
         have Rp := Lib.hid (by rw [HM.out]; exact Row.of_own tv : Row u2 1 vp M.length (strVals M)); have Bp := Lib.hid (Below.trans (by first | with_reducible exact B.out | with_reducible exact B.out.alloc B.out.size _ | with_reducible exact (BR.out.alloc BR.out.size _).drew) b2)
         clear B TXp; have B := Bp)
      | (have _gate := Rp.out; go_at_call 29; refine (HG1.out _ _ _ (XX.out.below B.out) Rp.out (hT.out.below (below_call13 T.out B.out))).mono ?_; rintro e u3 ⟨rfl, y3⟩
         have Bp := Lib.hid (below_call13 B.out y3)
         clear B Rp; have B := Bp)
      | (go_at_call 29; refine (HG2.out _ _ (AA.out.below B.out) (hT.out.below (below_call13 T.out B.out))).mono ?_; rintro e u3 ⟨rfl, y3⟩
         have Bq := Lib.hid (below_call13 B.out y3)
         clear B; have B := Bq)
      | fail)
    all_goals go_wp2
    all_goals go_ret
    all_goals exact ⟨rfl, below_call13 T.out B.out⟩
  · have hsx := hsx.symm
    subst hsx
    rw [show ((2 : Nat) : Int) = 2 from rfl] at HR HA2 HG1
    have hz0 : ((sizeJ (withS (putN 2) ([] : List (List UInt8))) : Nat) : Int) = 0 := rfl
    rw [hz0] at HR HA2
    have Cx0 := cell2_0 C_6
    have Cx1 := cell2_1 C_6
    go_wp2_with fail
    refine (HR.out _ _ c_6 (hT.out.below t6)).mono ?_
    rintro e w7 ⟨ab7, cb7, ac7, cc7, al7, cl7, rfl, e_r, m_r, b7⟩
    obtain ⟨E_7, F_7, _, a7⟩ := alloc2 w7 (.cells #[.slice ab7 12 cb7, .slice ac7 cn cc7] 29) (.cells #[.int .u64 2, .int .i64 0] 32)
    have c7 := b7.trans (a7.mono b7.size)
    have D_7 := heap_below D_6 c7
    have G_7 := heap_below G_6 c7
    have d_7 := d_6.below c7
    have r_7 := r_6.below c7
    have A_7 := heap_below A_6 c7
    have B_7 := heap_below B_6 c7
    have a_7 := a_6.below c7
    have C_7 := heap_below C_6 c7
    have c_7 := c_6.below c7
    have t7 := t6.trans (c7.mono t6.size)
    have e_7 := e_r.below a7
    have m_7 := m_r.below a7
    clear Cx0 Cx1 D_6 G_6 d_6 r_6 A_6 B_6 a_6 C_6 c_6 t6 e_r m_r a7 b7 c7
    go_upto_region 10 with (fail)
    generalize (World.alloc (World.alloc w7 (.cells #[.slice ab7 12 cb7, .slice ac7 cn cc7] 29)) (.cells #[.int .u64 2, .int .i64 0] 32)) = W7 at *
    have Fx0 := cell2_0 F_7
    have Fx1 := cell2_1 F_7
    have Gx0 := cell2_0 G_7
    have Gx1 := cell2_1 G_7
    go_upto_region 16 with (fail)
    clear Fx0 Fx1 Gx0 Gx1
    have Ex0 := cell2_0 E_7
    have Ex1 := cell2_1 E_7
    have Fx0 := cell2_0 F_7
    have Fx1 := cell2_1 F_7
    go_wp2_with fail
    refine (HA2.out _ _ e_7 (hT.out.below t7)).mono ?_
    rintro e w8 ⟨ab8, cb8, ac8, cc8, rfl, x_r, b8⟩
    obtain ⟨X_8, Y_8, -, a8⟩ := alloc2 w8 (.cells #[.slice ab8 12 cb8, .slice ac8 Xn cc8] 29) (.cells #[.int .u64 2, .int .i64 ((sizeJ (withS (putN 2) M) : Nat) : Int)] 32)
    have c8 := b8.trans (a8.mono b8.size)
    have D_8 := heap_below D_7 c8
    have G_8 := heap_below G_7 c8
    have d_8 := d_7.below c8
    have r_8 := r_7.below c8
    have A_8 := heap_below A_7 c8
    have B_8 := heap_below B_7 c8
    have a_8 := a_7.below c8
    have C_8 := heap_below C_7 c8
    have c_8 := c_7.below c8
    have E_8 := heap_below E_7 c8
    have F_8 := heap_below F_7 c8
    have e_8 := e_7.below c8
    have m_8 := m_7.below c8
    have t8 := t7.trans (c8.mono t7.size)
    have x_8 := x_r.below a8
    clear Ex0 Ex1 Fx0 Fx1 D_7 G_7 d_7 r_7 A_7 B_7 a_7 C_7 c_7 E_7 F_7 e_7 m_7 t7 x_r a8 b8 c8
    go_upto_region 17 with (fail)
    generalize (World.alloc (World.alloc w8 (.cells #[.slice ab8 12 cb8, .slice ac8 Xn cc8] 29)) (.cells #[.int .u64 2, .int .i64 ((sizeJ (withS (putN 2) M) : Nat) : Int)] 32)) = W8 at *
    have Xx0 := cell2_0 X_8
    have Xx1 := cell2_1 X_8
    have Yx0 := cell2_0 Y_8
    have Yx1 := cell2_1 Y_8
    have Ax0 := cell2_0 A_8
    have Ax1 := cell2_1 A_8
    have B := Lib.hid (Below.refl W8.heap.size W8).drew
    have T := Lib.hid t8
    have BR := Lib.hid (Below.refl W8.heap.size W8)
    have XX := Lib.hid x_8
    have AA := Lib.hid a_8
    have MM := Lib.hid m_8
    clear D_8 G_8 d_8 r_8 A_8 B_8 a_8 C_8 c_8 E_8 F_8 e_8 m_8 X_8 Y_8 x_8 t8
    go_region_held3 (fun V => V.cell? { block := w8.heap.size, off := 0, spot := none } = some (.slice ab8 12 cb8) ∧ V.cell? { block := w8.heap.size, off := 1, spot := none } = some (.slice ac8 Xn cc8) ∧ V.cell? { block := w8.heap.size + 1, off := 0, spot := none } = some (.int .u64 2) ∧ V.cell? { block := w8.heap.size + 1, off := 1, spot := none } = some (.int .i64 ((sizeJ (withS (putN 2) M) : Nat) : Int)) ∧ V.cell? { block := w5.heap.size, off := 0, spot := none } = some (.slice ab5 12 cb5) ∧ V.cell? { block := w5.heap.size, off := 1, spot := none } = some (.slice ac5 4 cc5))
      ((first | (with_reducible exact ⟨cell_below B.out Xx0, cell_below B.out Xx1, cell_below B.out Yx0, cell_below B.out Yx1, cell_below B.out Ax0, cell_below B.out Ax1⟩) | (with_reducible exact ⟨cell_below (B.out.alloc B.out.size _) Xx0, cell_below (B.out.alloc B.out.size _) Xx1, cell_below (B.out.alloc B.out.size _) Yx0, cell_below (B.out.alloc B.out.size _) Yx1, cell_below (B.out.alloc B.out.size _) Ax0, cell_below (B.out.alloc B.out.size _) Ax1⟩) | (with_reducible exact ⟨cell_below (BR.out.alloc BR.out.size _).drew Xx0, cell_below (BR.out.alloc BR.out.size _).drew Xx1, cell_below (BR.out.alloc BR.out.size _).drew Yx0, cell_below (BR.out.alloc BR.out.size _).drew Yx1, cell_below (BR.out.alloc BR.out.size _).drew Ax0, cell_below (BR.out.alloc BR.out.size _).drew Ax1⟩) | go_keep))
      (first
      | (have _gate := MM.out; go_at_call 34; refine (OwnTexts_any [] _ _ (MM.out.below (by first | with_reducible exact B.out | with_reducible exact B.out.alloc B.out.size _ | with_reducible exact (BR.out.alloc BR.out.size _).drew)) (by first | omega | decide)).mono ?_; rintro e u1 ⟨adp, cp, rfl, tx, yp⟩
         have hsp := below_pre13 (by first | with_reducible exact B.out | with_reducible exact B.out.alloc B.out.size _ | with_reducible exact (BR.out.alloc BR.out.size _).drew) yp
         have TXp := Lib.hid (Txt.lower tx hsp); have Bp := Lib.hid (below_call13 (by first | with_reducible exact B.out | with_reducible exact B.out.alloc B.out.size _ | with_reducible exact (BR.out.alloc BR.out.size _).drew) yp)
         clear B MM; have B := Bp)
      | (have _gate := TXp.out; rw [if_pos (show Region.wanted _ _ = true by kernel_rfl)]; refine wp_app_txts (v := .slice adp 0 cp) (l := []) (l2 := [[108, 97, 115, 116]]) (by rfl) W8.heap.size (by rfl) (by first | with_reducible exact TXp.out | with_reducible exact TXp.out.alloc _ | exact TXp.out | exact TXp.out.alloc _) (by rfl) (by first | with_reducible exact row_lit13 _ _ | with_reducible exact (row_lit13 _ _).below yp | with_reducible exact (row_lit13 _ _).drew.below yp | exact (row_lit13 _ _).below yp) (by first | omega | decide) (by first | with_reducible exact B.out.size | exact Nat.le_trans B.out.size (by simp)) ?_; intro vp u2 tv b2 gr
         have Rp := Lib.hid (by rw [HM.out]; exact Row.of_own tv : Row u2 1 vp M.length (strVals M)); have Bp := Lib.hid (Below.trans (by first | with_reducible exact B.out | with_reducible exact B.out.alloc B.out.size _ | with_reducible exact (BR.out.alloc BR.out.size _).drew) b2)
         clear B TXp; have B := Bp)
      | (have _gate := Rp.out; go_at_call 29; refine (HG1.out _ _ _ (XX.out.below B.out) Rp.out (hT.out.below (below_call13 T.out B.out))).mono ?_; rintro e u3 ⟨rfl, y3⟩
         have Bp := Lib.hid (below_call13 B.out y3)
         clear B Rp; have B := Bp)
      | (go_at_call 29; refine (HG2.out _ _ (AA.out.below B.out) (hT.out.below (below_call13 T.out B.out))).mono ?_; rintro e u3 ⟨rfl, y3⟩
         have Bq := Lib.hid (below_call13 B.out y3)
         clear B; have B := Bq)
      | fail)
    all_goals go_wp2
    all_goals go_ret
    all_goals exact ⟨rfl, below_call13 T.out B.out⟩
end Go.Proofs.YtmfbkelhegdmpaaGreatDoor
