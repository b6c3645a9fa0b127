/- The walk of the program's Recover, chapter 13 (snap). -/
import Derived.Test.YtmfbkelhegdmpaaGreatDoorSnapEnds
import Derived.Test.YtmfbkelhegdmpaaGreatDoorSnapHJ
import Derived.Test.YtmfbkelhegdmpaaGreatDoorJournalIN
import Derived.Test.YtmfbkelhegdmpaaGreatDoorJournalP
import Derived.Test.YtmfbkelhegdmpaaGreatDoorDiskMU
import Derived.Deep.CutBlock
namespace Go.Proofs.YtmfbkelhegdmpaaGreatDoor
open Go.RowKit Disk11 Journal12 Sum2

set_option maxHeartbeats 8000000 in
set_option maxRecDepth 100000 in
theorem Recover_any13 (d : Dev) (v : Value) (w : World) (h : DiskIs w d v) (ht : Tab w) :
    Calls Tryz.prog 18 #[v] w (RecPost13 w (recoverS d)) := by
  have HO := Lib.hid (fun W h => open_any d v W h)
  have HM := Lib.hid (fun W => must_ok W)
  have HF := Lib.hid (fun k hk W => must_fail k hk W)
  have HSl := Lib.hid (fun W h hg h8 t => slots_any d v W h hg h8 t)
  obtain ⟨r0, hr0⟩ : ∃ r, r = lookS (slotS d 0) 0 := ⟨_, rfl⟩
  obtain ⟨r1, hr1⟩ : ∃ r, r = lookS (slotS d 1) 1 := ⟨_, rfl⟩
  have hpb := pick_best d
  have hple := pick_le (d := d)
  rw [← hr0, ← hr1] at HSl hpb hple
  obtain ⟨s0, q0, t0⟩ := foundC_form r0
  obtain ⟨s1, q1, t1⟩ := foundC_form r1
  obtain ⟨n0, hn0⟩ : ∃ n, n = r0.1 := ⟨_, rfl⟩
  obtain ⟨n1, hn1⟩ : ∃ n, n = r1.1 := ⟨_, rfl⟩
  obtain ⟨m0, hm0⟩ : ∃ m, m = decide (r0.1 ≠ 0) := ⟨_, rfl⟩
  obtain ⟨m1, hm1⟩ : ∃ m, m = decide (r1.1 ≠ 0) := ⟨_, rfl⟩
  have h6 : foundC r0 ++ foundC r1 = #[.int .u64 (n0 : Int), .string ⟨s0.toArray⟩, .bool m0, .int .u64 (n1 : Int), .string ⟨s1.toArray⟩, .bool m1] := by rw [q0, q1, hn0, hn1, hm0, hm1]; rfl
  rw [h6] at HSl
  obtain ⟨lt, hlt⟩ : ∃ m, m = decide (n0 < n1) := ⟨_, rfl⟩
  obtain ⟨q, hq⟩ : ∃ q, q = pickS r0 r1 := ⟨_, rfl⟩
  rw [← hq] at hpb hple
  have hB1 : (!m0 || (m1 && lt)) = true → q = r1 := fun hb => by
    rw [hq]; unfold pickS; rw [hm0, hm1, hlt, hn0, hn1] at hb
    rw [if_pos]
    simp at hb
    rcases hb with hb | hb
    · exact .inl hb
    · exact .inr hb
  have hB0 : (!m0 || (m1 && lt)) = false → q = r0 := fun hb => by
    rw [hq]; unfold pickS; rw [hm0, hm1, hlt, hn0, hn1] at hb
    rw [if_neg]
    intro hc
    simp at hb
    rcases hc with hc | hc
    · exact hb.1 hc
    · have := hb.2 hc.1; omega
  have HQ := Lib.hid (And.intro hpb (And.intro hple (And.intro hB1 hB0)))
  have HN := Lib.hid (And.intro hn0 (And.intro hn1 (And.intro hm0 (And.intro hm1 (And.intro t0 t1)))))
  have HLT := Lib.hid hlt
  clear hr0 hr1 hpb hple q0 q1 t0 t1 hn0 hn1 h6 hm0 hm1 hlt hq hB1 hB0
  obtain ⟨C, hC⟩ : ∃ C, C = openN d := ⟨_, rfl⟩
  rw [← hC] at HO
  have hC' := Lib.hid hC
  obtain ⟨R, hR⟩ : ∃ R, R = recoverS d := ⟨_, rfl⟩
  rw [← hR]
  have hR' := Lib.hid hR
  obtain ⟨x1, hx1⟩ : ∃ x, x = ((d.1.length / 4 : Nat) : Int) := ⟨_, rfl⟩
  obtain ⟨x2, hx2⟩ : ∃ x, x = ((2 * (d.1.length / 4) : Nat) : Int) := ⟨_, rfl⟩
  obtain ⟨x3, hx3⟩ : ∃ x, x = ((d.1.length - 2 * (d.1.length / 4) : Nat) : Int) := ⟨_, rfl⟩
  have he : layV d.1.length = .agg #[.int .i64 ((d.1.length / 4 : Nat) : Int), .int .i64 ((2 * (d.1.length / 4) : Nat) : Int), .int .i64 ((d.1.length - 2 * (d.1.length / 4) : Nat) : Int)] := rfl
  have hreg : regS d.1.length = (x2, x3) := by rw [hx2, hx3]; rfl
  rw [← hx1, ← hx2, ← hx3] at he
  rw [he] at HO HSl
  have hreg' := Lib.hid hreg
  clear hC hR he hx1 hx2 hx3 hreg
  obtain ⟨ab, cb, ac, cc, rfl, _, _, _, _⟩ := h.form
  obtain ⟨WA, hWA⟩ : ∃ WA, (w.alloc (.cells #[.slice ab d.1.length cb, .slice ac d.2.length cc] 29)).alloc (.cells #[.slice none 0 0, .slice none 0 0] 29) = WA := ⟨_, rfl⟩
  obtain ⟨k0, k1, hsA, eA⟩ := alloc2 w (.cells #[.slice ab d.1.length cb, .slice ac d.2.length cc] 29) (.cells #[.slice none 0 0, .slice none 0 0] 29)
  rw [hWA] at k0 k1 hsA eA
  obtain ⟨k2, k3, _, eB⟩ := alloc2 WA (.cells #[.int .u64 0, .int .i64 0] 32) (.cells #[.int .i64 0] 23)
  rw [hsA] at k2 k3
  have hB := Lib.hid (eA.trans (eB.mono eA.size))
  have k0' := heap_below k0 eB
  have k1' := heap_below k1 eB
  have h0 := Lib.hid h
  have hT := Lib.hid ht
  clear h ht k0 k1 eA eB
  go_enter_defers Tryz.func18, Tryz.ntmps18
  go_upto_region 2 with (fail)
  generalize hW1 : (WA.alloc (.cells #[.int .u64 0, .int .i64 0] 32)).alloc (.cells #[.int .i64 0] 23) = W1 at *
  clear hW1 hWA hsA
  have c0 := cell2_0 k0'
  have c1 := cell2_1 k0'
  go_wp2_with fail
  refine (HO.out _ (h0.out.below hB.out)).mono ?_
  rintro e w2 (⟨ho, rfl, hgd, b2⟩ | ⟨ho, rfl, b2⟩)
  · have hc0 := Lib.hid (hC'.out.symm.trans ho)
    have h8 := (openN_ok hc0.out).2
    have B2 := Lib.hid (hB.out.trans (b2.mono hB.out.size))
    have k02 := heap_below k0' b2
    have k12 := heap_below k1' b2
    have k22 := heap_below k2 b2
    have k32 := heap_below k3 b2
    have a3 := Go.Joins.below_alloc1 w2 (.cells #[.int .i64 x1, .int .i64 x2, .int .i64 x3] 67)
    have k53 := World.alloc_heap_new w2 (.cells #[.int .i64 x1, .int .i64 x2, .int .i64 x3] 67)
    have k03 := heap_below k02 a3
    have k13 := heap_below k12 a3
    have k23 := heap_below k22 a3
    have k33 := heap_below k32 a3
    have B3 := Lib.hid (B2.out.trans (a3.mono B2.out.size))
    have lw2 : w.heap.size + 2 + 1 < w2.heap.size := (Array.getElem?_eq_some_iff.1 k32).1
    have HG := Lib.hid hgd
    clear c0 c1 k0' k1' k2 k3 k02 k12 k22 k32 a3 b2 ho hgd HO
    go_upto_region 3 with (fail)
    generalize hW3 : (w2.alloc (.cells #[.int .i64 x1, .int .i64 x2, .int .i64 x3] 67)) = W3 at *
    clear hW3
    have d0 := cell2_0 k03
    have d1 := cell2_1 k03
    have y0 := cell3_0 k53
    have y1 := cell3_1 k53
    have y2 := cell3_2 k53
    have HK := Lib.hid (And.intro k03 (And.intro k13 (And.intro k23 (And.intro k33 k53))))
    clear k03 k13 k23 k33 k53
    by_cases hcz : d.2 = []
    · have e1 : decide ((0 : Int) < (d.2.length : Int)) = false := by rw [hcz]; rfl
      have e2 : decide (0 < d.2.length) = false := by rw [hcz]; rfl
      have hcz' := Lib.hid hcz
      clear hcz
      go_wp2_with fail
      refine (HSl.out _ (h0.out.below B3.out) HG.out h8 (hT.out.below B3.out)).mono ?_
      rintro e w4 ⟨rfl, b4⟩
      have B4 := Lib.hid (B3.out.trans (b4.mono B3.out.size))
      have k04 := heap_below HK.out.1 b4
      have k14 := heap_below HK.out.2.1 b4
      have k24 := heap_below HK.out.2.2.1 b4
      have k34 := heap_below HK.out.2.2.2.1 b4
      have k54 := heap_below HK.out.2.2.2.2 b4
      clear d0 d1 y0 y1 y2 b4 HSl HK
      go_upto_region 7 with (fail)
      obtain ⟨K6, K7, _, a6⟩ := alloc2 w4 (.cells #[.int .u64 (n0 : Int), .string ⟨s0.toArray⟩, .bool m0, .int .u64 (n1 : Int), .string ⟨s1.toArray⟩, .bool m1] 83) (.cells #[.int .u64 (n0 : Int), .string ⟨s0.toArray⟩, .bool m0] 82)
      have K0 := heap_below k04 a6
      have K1 := heap_below k14 a6
      have K2 := heap_below k24 a6
      have K3 := heap_below k34 a6
      have K5 := heap_below k54 a6
      have B6 := Lib.hid (B4.out.trans (a6.mono B4.out.size))
      have lw4 : w2.heap.size < w4.heap.size := (Array.getElem?_eq_some_iff.1 k54).1
      clear k04 k14 k24 k34 k54 a6
      generalize (w4.alloc (.cells #[.int .u64 (n0 : Int), .string ⟨s0.toArray⟩, .bool m0, .int .u64 (n1 : Int), .string ⟨s1.toArray⟩, .bool m1] 83)).alloc (.cells #[.int .u64 (n0 : Int), .string ⟨s0.toArray⟩, .bool m0] 82) = W6 at *
      have f0 := cell3_0 K7
      have f1 := cell3_1 K7
      have f2 := cell3_2 K7
      have g3 := cell_lit K6 (j := 3) rfl
      have g4 := cell_lit K6 (j := 4) rfl
      have g5 := cell_lit K6 (j := 5) rfl
      have z0 := frozen3 K7 0
      have z1 := frozen3 K7 1
      have z2 := frozen3 K7 2
      have KK := Lib.hid (And.intro K0 (And.intro K1 (And.intro K2 (And.intro K3 (And.intro K5 K7)))))
      clear K0 K1 K2 K3 K5 K6 K7
      go_cut [53] from 36 to 53 (fun u W => u = .bool (!m0 || (m1 && lt)) ∧ W = W6)
      case first =>
        have l1 : decide ((n0 : Int) < (n1 : Int)) = lt := by rw [HLT.out]; simp
        have l2 : decide (n0 < n1) = lt := HLT.out.symm
        clear HQ HN HLT
        cases m0 <;> cases m1 <;> cases lt <;> go_wp2_with fail
        all_goals
          go_meet
          exact ⟨rfl, rfl⟩
      case rest =>
        obtain ⟨rfl, rfl⟩ := hcut
        go_upto_if 53 with (fail)
        obtain ⟨B, hBe⟩ : ∃ B, B = (!m0 || m1 && lt) := ⟨_, rfl⟩
        rw [← hBe]
        have hB' := Lib.hid hBe
        clear hBe
        obtain ⟨nq, hnq⟩ : ∃ n, n = q.1 := ⟨_, rfl⟩
        have hnq' := Lib.hid hnq
        clear hnq
        go_cut [54] from 54 to 55 (fun u W => ∃ (s : List UInt8) (mq : Bool), mq = decide (q.1 ≠ 0) ∧ (q.1 ≠ 0 → s = q.2) ∧ W.heap[w4.heap.size + 1]? = some (.cells #[.int .u64 (nq : Int), .string ⟨s.toArray⟩, .bool mq] 82 (0, 0)) ∧ W.heap[w.heap.size]? = some (.cells #[.slice ab d.1.length cb, .slice ac d.2.length cc] 29 (0, 0)) ∧ W.heap[w.heap.size + 1]? = some (.cells #[.slice none 0 0, .slice none 0 0] 29 (0, 0)) ∧ W.heap[w.heap.size + 2]? = some (.cells #[.int .u64 0, .int .i64 0] 32 (0, 0)) ∧ W.heap[w.heap.size + 2 + 1]? = some (.cells #[.int .i64 0] 23 (0, 0)) ∧ W.heap[w2.heap.size]? = some (.cells #[.int .i64 x1, .int .i64 x2, .int .i64 x3] 67 (0, 0)) ∧ Below w.heap.size w W)
        case first =>
          cases B
          · have hq := HQ.out.2.2.2 hB'.out.symm
            obtain ⟨e0, e1, e2, e3, e4, e5⟩ := HN.out
            have HE := Lib.hid (And.intro hq (And.intro e0 (And.intro e2 e4)))
            clear hq e0 e1 e2 e3 e4 e5 HN HQ HLT hB'
            go_wp2_with fail
            go_meet
            obtain ⟨hq, e0, e2, e4⟩ := HE.out
            obtain ⟨K0, K1, K2, K3, K5, K7⟩ := KK.out
            exact ⟨s0, m0, by rw [hq]; exact e2, by rw [hq]; exact e4, by rw [hnq'.out, hq, ← e0]; exact K7, K0, K1, K2, K3, K5, B6.out⟩
          · have hq := HQ.out.2.2.1 hB'.out.symm
            obtain ⟨e0, e1, e2, e3, e4, e5⟩ := HN.out
            have HE := Lib.hid (And.intro hq (And.intro e1 (And.intro e3 e5)))
            clear hq e0 e1 e2 e3 e4 e5 HN HQ HLT hB'
            go_wp2_with fail
            go_meet
            obtain ⟨hq, e1, e3, e5⟩ := HE.out
            obtain ⟨K0, K1, K2, K3, K5, K7⟩ := KK.out
            exact ⟨s1, m1, by rw [hq]; exact e3, by rw [hq]; exact e5, by rw [hnq'.out, hq, ← e1]; exact set_three K7, three_other K0 (by omega), three_other K1 (by omega), three_other K2 (by omega), three_other K3 (by omega), three_other K5 (by omega), below_three B6.out (by omega)⟩
        case rest =>
          obtain ⟨s, mq, hmq, hsq, K7, K0, K1, K2, K3, K5, b7⟩ := hcut
          clear f0 f1 f2 g3 g4 g5 z0 z1 z2 KK HN HLT hB' B6
          have B7 := Lib.hid b7
          have f2 := cell3_2 K7
          have KK := Lib.hid (And.intro K0 (And.intro K1 (And.intro K2 (And.intro K3 (And.intro K5 K7)))))
          by_cases hq0 : q.1 = 0
          · have hr2 := Lib.hid (hR'.out.trans (rec_f3 hc0.out hcz'.out (HQ.out.1.1 hq0)))
            have hmf : mq = false := by rw [hmq]; simp [hq0]
            subst hmf
            clear hq0 hmq hsq K0 K1 K2 K3 K5 K7 b7
            go_wp2_with fail
            refine (HF.out 10 (by decide) _).mono ?_
            rintro e w8 ⟨rfl, rfl⟩
            go_wp2
            obtain ⟨K0, K1, K2, K3, K5, K7⟩ := KK.out
            exact rfault_leaves rfl rfl rfl rfl rfl rfl K1 K2 K3 B7.out (Nat.le_refl _) hr2.out
          · have hmf : mq = true := by rw [hmq]; simp [hq0]
            subst hmf
            obtain rfl := hsq hq0
            have hbq := HQ.out.1.2 hq0
            have hq1 : nq ≤ 1099511627776 := by rw [hnq'.out]; exact HQ.out.2.1
            have hrc := Lib.hid (hR'.out.trans (rec_done hc0.out hcz'.out hbq hq0))
            obtain ⟨L, hL⟩ : ∃ L, L = recsJ (regJ d (regS d.1.length)) := ⟨_, rfl⟩
            obtain ⟨O, hO⟩ : ∃ O, O = ownS (putN q.1) L := ⟨_, rfl⟩
            obtain ⟨E, hE⟩ : ∃ E, E = sizeJ (L.take O.length) := ⟨_, rfl⟩
            obtain ⟨g1, g2, g3, g4, g5, g6, hE2, hL2, hLl, hOl, hLs⟩ := rec_log hc0.out hbq hL hO hE
            obtain ⟨cl, hcl⟩ : ∃ c, c = (cleanJ d (regS d.1.length) (E : Int)).1 := ⟨_, rfl⟩
            rw [← hcl] at g3
            have hdc := Lib.hid (done_clean g5 g3)
            rw [hreg'.out] at g1 g2 g3 g6
            have HRp := Lib.hid (fun v W h t => Replay_any d v x2 x3 W h t)
            have HPl := Lib.hid (fun v W h t => Places_any d v x2 x3 W h t)
            have HCl := Lib.hid (fun v W h => Clean_any d v x2 x3 (E : Int) W h)
            have HCu := Lib.hid (fun v W h => JCut_any d v x2 x3 (E : Int) W h)
            rw [g1] at HRp
            rw [g2] at HPl
            rw [g3] at HCl
            have hrs := Lib.hid g4
            have hen := Lib.hid g5
            have hcu := Lib.hid (g6 hcz'.out)
            have HPt := Lib.hid (fun W => Put_any13 nq (by omega) W)
            obtain ⟨P, hP⟩ : ∃ P, P = putN nq := ⟨_, rfl⟩
            have hPl : P.length ≤ 6 := by rw [hP]; exact (putN_length nq hq1).2
            rw [← hP] at HPt
            rw [← hnq'.out, ← hP] at hO
            rw [show (((L, sizeJ L, 0) : List (List UInt8) × Nat × Nat).2.2 : Int) = 0 from rfl, show ((L, sizeJ L, 0) : List (List UInt8) × Nat × Nat).2.1 = sizeJ L from rfl] at HRp
            rw [show (((offsJ 0 L, 0) : List Nat × Nat).2 : Int) = 0 from rfl] at HPl
            rw [show (((cl, 0) : Bool × Nat).2 : Int) = 0 from rfl] at HCl
            dsimp only at HRp HPl HCl
            have hO' := Lib.hid hO
            have hE' := Lib.hid hE
            clear hq0 hmq hsq b7 hbq g1 g2 g3 g4 g5 g6 hcl hP hL hO hE
            have d0 := cell2_0 K0
            have d1 := cell2_1 K0
            have y1 := cell3_1 K5
            have y2 := cell3_2 K5
            clear K0 K1 K2 K3 K5 K7
            go_wp2_with fail
            refine (HRp.out _ _ (h0.out.below B7.out) (hT.out.below B7.out)).mono ?_
            rintro e w8 ⟨va, rfl, tL, b8⟩
            obtain ⟨aL, cL, rfl⟩ := tL.slice
            have KK8 := Lib.hid (And.intro (heap_below KK.out.1 b8) (And.intro (heap_below KK.out.2.1 b8) (And.intro (heap_below KK.out.2.2.1 b8) (And.intro (heap_below KK.out.2.2.2.1 b8) (And.intro (heap_below KK.out.2.2.2.2.1 b8) (heap_below KK.out.2.2.2.2.2 b8))))))
            have B8 := Lib.hid (B7.out.trans (b8.mono B7.out.size))
            clear d0 d1 y1 y2 b8 KK
            go_wp2_with fail
            refine (HM.out _).mono ?_
            rintro e w9 ⟨rfl, rfl⟩
            have d0 := cell2_0 KK8.out.1
            have d1 := cell2_1 KK8.out.1
            have y1 := cell3_1 KK8.out.2.2.2.2.1
            have y2 := cell3_2 KK8.out.2.2.2.2.1
            go_wp2_with fail
            refine (HPl.out _ _ (h0.out.below B8.out) (hT.out.below B8.out)).mono ?_
            rintro e w9 ⟨vb, rfl, nO, b9⟩
            obtain ⟨aO, cO, rfl⟩ := nO.slice
            have KK9 := Lib.hid (And.intro (heap_below KK8.out.1 b9) (And.intro (heap_below KK8.out.2.1 b9) (And.intro (heap_below KK8.out.2.2.1 b9) (And.intro (heap_below KK8.out.2.2.2.1 b9) (And.intro (heap_below KK8.out.2.2.2.2.1 b9) (heap_below KK8.out.2.2.2.2.2 b9))))))
            have B9 := Lib.hid (B8.out.trans (b9.mono B8.out.size))
            have tL9 := tL.below b9
            clear d0 d1 y1 y2 b9 KK8 tL
            go_wp2_with fail
            refine (HM.out _).mono ?_
            rintro e w10 ⟨rfl, rfl⟩
            have f0 := cell3_0 KK9.out.2.2.2.2.2
            go_wp2_with fail
            refine (HPt.out _).mono ?_
            rintro e w10 ⟨rfl, b10⟩
            have KK10 := Lib.hid (And.intro (heap_below KK9.out.1 b10) (And.intro (heap_below KK9.out.2.1 b10) (And.intro (heap_below KK9.out.2.2.1 b10) (And.intro (heap_below KK9.out.2.2.2.1 b10) (And.intro (heap_below KK9.out.2.2.2.2.1 b10) (heap_below KK9.out.2.2.2.2.2 b10))))))
            have B10 := Lib.hid (B9.out.trans (b10.mono B9.out.size))
            have tL10 := Lib.hid (Row.of_own (tL9.below b10))
            have nO10 := Lib.hid (Row.of_own (nO.below b10))
            clear f0 f2 b10 KK9 tL9 nO
            have hOl' : (offsJ 0 L).length = L.length := offsJ_length 0 L
            have HX := Lib.hid (fun (x : List UInt8) (hx : x.length ≤ 60000) (W : World) => prefix_any x P (by omega) W)
            have HZ := Lib.hid (fun (x : List UInt8) (h1 : 1 ≤ x.length) (h2 : x.length ≤ 60000) (W : World) => (by
              have := Size_any x W (by omega)
              unfold sizeF at this
              rw [if_neg (fun e => by rw [e] at h1; simp at h1), if_neg (by omega)] at this
              exact this : Calls Tryz.prog 54 #[.string ⟨x.toArray⟩] W fun e w' => e = .returned (.tuple #[.int .i64 ((x.length + 10 : Nat) : Int), .int .i64 ((0 : Nat) : Int)]) ∧ w' = W))
            go_upto_block 0 with (fail)
            go_cut [15, 16] from 85 to 113 (fun u v W => ∃ (aR : Option Addr) (cR : Nat), u = .int .i64 (E : Int) ∧ v = .slice aR O.length cR ∧ Txt W w10.heap.size (.slice aR O.length cR) O ∧ Below w10.heap.size w10 W)
            case first =>
              have HLs := Lib.hid hLs
              clear hLs HRp HPl HCl HCu hrs hen hcu hdc hrc HPt KK10
              go_wp2_with fail
              go_loopw [15, 16, 85] (fun en ov i wr => ∃ (j : Nat), i = .int .i64 (j : Int) ∧ j ≤ O.length ∧ en = .int .i64 ((sizeJ (L.take j) : Nat) : Int) ∧ Txt wr w10.heap.size ov (O.take j) ∧ Below w10.heap.size w10 wr) (fun _ _ i _ => L.length - (intOf i).toNat)
              case atStart => exact ⟨0, rfl, Nat.zero_le _, rfl, Txt.nil _ _, Below.refl _ _⟩
              case round =>
                obtain ⟨j, rfl, hj, rfl, tO, hblw⟩ := hrel
                by_cases hlt : j < L.length
                · have hlt' : decide ((j : Int) < L.length) = true := by simp; omega
                  obtain ⟨la, hla, lx⟩ := tL10.out.cell (strVals_at L j hlt)
                  cases hla
                  have lx := cell_below hblw lx
                  have hxl := HLs.out _ (List.getElem_mem hlt)
                  have hst := own_step hO'.out hj hlt
                  have hs1 := sizeJ_take_succ L j hlt
                  have hs2 := sizeJ_take_le L (j + 1)
                  have hof := intVals_at13 (offsJ 0 L) j _ (offsJ_at 0 L j hlt)
                  obtain ⟨x, hx⟩ : ∃ x, x = L[j] := ⟨_, rfl⟩
                  rw [← hx] at lx hxl hst hs1
                  obtain ⟨z0, hz0⟩ : ∃ z, z = sizeJ (L.take j) := ⟨_, rfl⟩
                  rw [← hz0] at hs1 ⊢
                  rw [← hz0, Nat.zero_add] at hof
                  have hz0' := Lib.hid hz0
                  have hs1' := Lib.hid hs1
                  have hbz : z0 + (x.length + 10) ≤ 262144 := by omega
                  clear hx hz0 hs1 hs2
                  rcases hst with ⟨o1, o2, o3⟩ | ⟨o1, o2⟩
                  · have HXx := Lib.hid (fun W => HX.out x hxl.2 W)
                    rw [if_pos o2, decide_eq_true o2] at HXx
                    have HZx := Lib.hid (fun W => HZ.out x hxl.1 hxl.2 W)
                    obtain ⟨y, hy⟩ : ∃ y, y = x.drop P.length := ⟨_, rfl⟩
                    rw [← hy] at HXx o3
                    have o3' := Lib.hid o3
                    have o1' := Lib.hid o1
                    obtain ⟨oa, hoa, ox⟩ := nO10.out.cell hof
                    cases hoa
                    obtain ⟨av, cv, rfl⟩ := tO.slice
                    have htl : (O.take j).length = j := by rw [List.length_take]; omega
                    rw [htl] at tO
                    have TO := Lib.hid tO
                    have U := Lib.hid hblw
                    have hlen : j < 4398046511104 := by omega
                    have hlO : decide ((j : Int) < ((offsJ 0 L).length : Int)) = true := by rw [hOl']; exact hlt'
                    clear o1 o2 o3 hy HX HZ hof tO hblw
                    go_wp2_with fail
                    refine (HXx.out _).mono ?_
                    rintro e wa ⟨rfl, rfl⟩
                    go_wp2_with fail
                    refine (HZx.out _).mono ?_
                    rintro e wb ⟨rfl, rfl⟩
                    go_upto_region 23 with (fail)
                    have hws : IntKind.i64.wrap ((z0 : Int) + ((x.length : Int) + 10)) = (z0 : Int) + ((x.length : Int) + 10) := by rw [IntKind.wrap_i64]; omega
                    go_region_held3 (fun V => V.cell? (oa.add j) = some (.int .i64 (z0 : Int)))
                      (first | exact cell_below U.out.drew ox | exact cell_below (U.out.drew.alloc U.out.drew.size _) ox | exact cell_below U2.out ox)
                      ((refine step_app_str (n := y) (by rfl) (by rfl) w10.heap.size (by rfl) (TO.out.drew.alloc _) (by rfl) (cell1 (World.alloc_heap_new _ _)) (by omega) (U.out.drew.alloc U.out.drew.size _).size ?_; intro g cap w' tv bv hg
                        have U2 := Lib.hid ((U.out.drew.alloc U.out.drew.size _).trans bv)))
                    rw [← o3'.out, htl] at tv
                    go_wp2
                    exact ⟨⟨j + 1, by go_num, o1'.out, congrArg (Value.int .i64) (by rw [hs1'.out]; omega), tv, U2.out⟩, by simp [intOf]; omega⟩
                  · have HXx := Lib.hid (fun W => HX.out x hxl.2 W)
                    rw [if_neg o2, decide_eq_false o2] at HXx
                    have o1' := Lib.hid o1
                    have TO := Lib.hid tO
                    have U := Lib.hid hblw
                    clear o1 o2 HX HZ hof tO hblw
                    go_wp2_with fail
                    refine (HXx.out _).mono ?_
                    rintro e wa ⟨rfl, rfl⟩
                    go_wp2_with fail
                    go_meet
                    obtain ⟨av, cv, hov⟩ := TO.out.slice
                    have e1 : O.take j = O := by rw [o1'.out]; exact List.take_length
                    rw [e1] at hov
                    have TT := TO.out
                    rw [e1, hov] at TT
                    exact ⟨av, cv, congrArg (fun z : Nat => Value.int .i64 (z : Int)) (by rw [hz0'.out, hE'.out, o1'.out]), hov, TT, U.out⟩
                · have hlt' : decide ((j : Int) < L.length) = false := by simp; omega
                  have hjO : j = O.length := by omega
                  have TO := Lib.hid tO
                  have U := Lib.hid hblw
                  have hj' := Lib.hid hjO
                  clear hjO tO hblw HX HZ
                  go_wp2_with fail
                  go_meet
                  obtain ⟨av, cv, hov⟩ := TO.out.slice
                  have e1 : O.take j = O := by rw [hj'.out]; exact List.take_length
                  rw [e1] at hov
                  have TT := TO.out
                  rw [e1, hov] at TT
                  exact ⟨av, cv, congrArg (fun z : Nat => Value.int .i64 (z : Int)) (by rw [hE'.out, hj'.out]), hov, TT, U.out⟩
            case rest =>
              obtain ⟨aR, cR, rfl, rfl, tR, b11⟩ := hcut
              have KK11 := Lib.hid (And.intro (heap_below KK10.out.1 b11) (And.intro (heap_below KK10.out.2.1 b11) (And.intro (heap_below KK10.out.2.2.1 b11) (And.intro (heap_below KK10.out.2.2.2.1 b11) (And.intro (heap_below KK10.out.2.2.2.2.1 b11) (heap_below KK10.out.2.2.2.2.2 b11))))))
              have B11 := Lib.hid (B10.out.trans (b11.mono B10.out.size))
              have T11 := Lib.hid tR
              have lw10 : w4.heap.size + 1 < w10.heap.size := (Array.getElem?_eq_some_iff.1 KK10.out.2.2.2.2.2).1
              have d0 := cell2_0 KK11.out.1
              have d1 := cell2_1 KK11.out.1
              have y1 := cell3_1 KK11.out.2.2.2.2.1
              have y2 := cell3_2 KK11.out.2.2.2.2.1
              clear tR b11 KK10 tL10 nO10 hLs HX HZ
              go_wp2_with fail
              refine (HCl.out _ _ (h0.out.below B11.out)).mono ?_
              rintro e w12 ⟨rfl, b12⟩
              have KK12 := Lib.hid (And.intro (heap_below KK11.out.1 b12) (And.intro (heap_below KK11.out.2.1 b12) (And.intro (heap_below KK11.out.2.2.1 b12) (And.intro (heap_below KK11.out.2.2.2.1 b12) (And.intro (heap_below KK11.out.2.2.2.2.1 b12) (heap_below KK11.out.2.2.2.2.2 b12))))))
              have B12 := Lib.hid (B11.out.trans (b12.mono B11.out.size))
              have T12 := Lib.hid (T11.out.below b12)
              clear d0 d1 y1 y2 KK11 T11 b12
              go_wp2_with fail
              refine (HM.out _).mono ?_
              rintro e w13 ⟨rfl, rfl⟩
              go_upto_if 125 with (fail)
              obtain ⟨D, hD⟩ : ∃ D, D = doneS d := ⟨_, rfl⟩
              have hD' := Lib.hid hD
              clear hD
              go_cut [126] from 126 to 135 (fun u W => ∃ (a1 : Option Addr) (c1 : Nat) (a2 : Option Addr) (c2 : Nat), W.heap[w.heap.size]? = some (.cells #[.slice a1 D.1.length c1, .slice a2 D.2.length c2] 29 (0, 0)) ∧ DiskIs W D (.agg #[.slice a1 D.1.length c1, .slice a2 D.2.length c2]) ∧ W.heap[w.heap.size + 1]? = some (.cells #[.slice none 0 0, .slice none 0 0] 29 (0, 0)) ∧ W.heap[w.heap.size + 2]? = some (.cells #[.int .u64 0, .int .i64 0] 32 (0, 0)) ∧ W.heap[w.heap.size + 2 + 1]? = some (.cells #[.int .i64 0] 23 (0, 0)) ∧ W.heap[w4.heap.size + 1]? = some (.cells #[.int .u64 (nq : Int), .string ⟨q.2.toArray⟩, .bool true] 82 (0, 0)) ∧ Txt W w10.heap.size (.slice aR O.length cR) O ∧ Below w.heap.size w W)
              case first =>
                cases cl
                · have hDe := Lib.hid (hD'.out.trans hdc.out)
                  rw [if_neg (by simp), hreg'.out] at hDe
                  obtain ⟨r4, h4⟩ : ∃ r, r = cutJ d (x2, x3) (E : Int) := ⟨_, rfl⟩
                  have hc0' := hcu.out
                  rw [← h4] at HCu hDe hc0'
                  have h40 := Lib.hid hc0'
                  have d0 := cell2_0 KK12.out.1
                  have d1 := cell2_1 KK12.out.1
                  have y1 := cell3_1 KK12.out.2.2.2.2.1
                  have y2 := cell3_2 KK12.out.2.2.2.2.1
                  clear h4 hc0' hrs hen hrc hcu hdc HRp HPl HCl
                  go_wp2_with fail
                  refine (HCu.out _ _ (h0.out.below B12.out)).mono ?_
                  rintro e w14 ⟨v', rfl, D14, b14⟩
                  rw [h40.out]
                  obtain ⟨a14, c14, e14, m14, rfl, _⟩ := D14.form
                  have K0 := heap_below KK12.out.1 b14
                  have K1 := heap_below KK12.out.2.1 b14
                  have K2 := heap_below KK12.out.2.2.1 b14
                  have K3 := heap_below KK12.out.2.2.2.1 b14
                  have K7 := heap_below KK12.out.2.2.2.2.2 b14
                  have T14 := T12.out.below b14
                  have B14 := B12.out.trans (b14.mono B12.out.size)
                  have f0 := frozen2 K0 0
                  have f1 := frozen2 K0 1
                  have N0 := no_str K0 (by simp)
                  clear d0 d1 y1 y2 KK12 T12 b14
                  have d0 := cell2_0 K0
                  have d1 := cell2_1 K0
                  go_wp2_with fail
                  refine (HM.out _).mono ?_
                  rintro e w15 ⟨rfl, rfl⟩
                  go_wp2_with fail
                  go_meet
                  have hDr := hDe.out
                  subst hDr
                  exact ⟨a14, c14, e14, m14, set_two K0, disk_apart (j := 1) (disk_apart (j := 0) D14 K0) (Lib.heap_setCell_same (i := 0) K0 _), two_other (by omega) K1, two_other (by omega) K2, two_other (by omega) K3, two_other (by omega) K7, own_set (own_set T14 (by omega)) (by omega), below_set (below_set B14 (Nat.le_refl _)) (Nat.le_refl _)⟩
                · have hDe := Lib.hid (hD'.out.trans hdc.out)
                  rw [if_pos rfl] at hDe
                  clear hrs hen hrc hcu hdc HRp HPl HCl
                  go_wp2_with fail
                  go_meet
                  obtain ⟨K0, K1, K2, K3, K5, K7⟩ := KK12.out
                  have hDr := hDe.out
                  subst hDr
                  exact ⟨ab, cb, ac, cc, K0, h0.out.below B12.out, K1, K2, K3, K7, T12.out, B12.out⟩
              case rest =>
                obtain ⟨a1, c1, a2, c2, K0, D13, K1, K2, K3, K7, T13, b13⟩ := hcut
                have hRe : R = (D, q.2, O, (nq, (E : Int)), 0) := by rw [hrc.out, hD'.out, hrs.out, hen.out, hnq'.out]
                have hRe' := Lib.hid hRe
                clear hRe hrc hD' hrs hen HRp HPl HCl HCu hcu hdc hO' hE' hnq' HQ HM HF KK12 T12 hC' hR' h0 hT HPt
                have d0 := cell2_0 K0
                have d1 := cell2_1 K0
                have f0 := cell3_0 K7
                have f1 := cell3_1 K7
                have z0 := cell2_0 K1
                have z1 := cell2_1 K1
                have z2 := cell2_0 K2
                have z3 := cell2_1 K2
                have z4 := cell1 K3
                have z5 := frozen2 K1 0
                have z6 := frozen2 K1 1
                have z7 := frozen2 K2 0
                have z8 := frozen2 K2 1
                have z9 := frozen1 K3
                have N1 := no_str K1 (by simp)
                have N2 := no_str K2 (by simp)
                have N3 := no_str K3 (by simp)
                have HK5 := Lib.hid (And.intro K1 (And.intro K2 K3))
                have NN := Lib.hid (And.intro N1 (And.intro N2 N3))
                have DT := Lib.hid (And.intro D13 (And.intro T13 b13))
                clear K0 K1 K2 K3 K7 N1 N2 N3 D13 T13 b13
                have h10 : w.heap.size + 1 ≠ w.heap.size := by omega
                have h20 : w.heap.size + 2 ≠ w.heap.size := by omega
                have h30 : w.heap.size + 2 + 1 ≠ w.heap.size := by omega
                have h14 : w.heap.size + 1 ≠ w4.heap.size + 1 := by omega
                have h24 : w.heap.size + 2 ≠ w4.heap.size + 1 := by omega
                have h34 : w.heap.size + 2 + 1 ≠ w4.heap.size + 1 := by omega
                have e14 : ¬ (w.heap.size = w4.heap.size) := by omega
                have e24 : ¬ (w.heap.size + 1 = w4.heap.size) := by omega
                have e34 : ¬ (w.heap.size + 2 = w4.heap.size) := by omega
                have h12 : w.heap.size + 1 ≠ w.heap.size + 2 := by omega
                have h13 : w.heap.size + 1 ≠ w.heap.size + 2 + 1 := by omega
                have h21 : w.heap.size + 2 ≠ w.heap.size + 1 := by omega
                have h23 : w.heap.size + 2 ≠ w.heap.size + 2 + 1 := by omega
                have h31 : w.heap.size + 2 + 1 ≠ w.heap.size + 1 := by omega
                have h32 : w.heap.size + 2 + 1 ≠ w.heap.size + 2 := by omega
                have g1 : w.heap.size ≤ w.heap.size + 1 := by omega
                have g2 : w.heap.size ≤ w.heap.size + 2 := by omega
                have g3 : w.heap.size ≤ w.heap.size + 2 + 1 := by omega
                have l1 : w.heap.size + 1 < w10.heap.size := by omega
                have l2 : w.heap.size + 2 < w10.heap.size := by omega
                have l3 : w.heap.size + 2 + 1 < w10.heap.size := by omega
                have g10 := Lib.hid B10.out.size
                go_upto_region 30 with (fail)
                go_region_held3 (fun W => W.cell? { block := w.heap.size, off := 0, spot := none } = some (.slice a1 D.1.length c1) ∧ W.cell? { block := w.heap.size, off := 1, spot := none } = some (.slice a2 D.2.length c2) ∧ W.cell? { block := w4.heap.size + 1, off := 0, spot := none } = some (.int .u64 (nq : Int)) ∧ W.cell? { block := w4.heap.size + 1, off := 1, spot := none } = some (.string ⟨q.2.toArray⟩)) ((first | (simp only [World.cell?_setCell_far, ne_eq, h10, h20, h30, h14, h24, h34, e14, e24, e34, not_false_eq_true, d0, d1, f0, f1, and_self]; done) | go_keep)) (fail)
                all_goals
                  go_wp2
                  have hRr := hRe'.out
                  subst hRr
                  obtain ⟨K1, K2, K3⟩ := HK5.out
                  obtain ⟨N1, N2, N3⟩ := NN.out
                  obtain ⟨D13, T13, b13⟩ := DT.out
                  have F1 := other_set (j := 0) (other_set (j := 1) (other_set (j := 0) (set_two (x' := .slice a1 D.1.length c1) (y' := .slice a2 D.2.length c2) K1) h12 (.int .u64 (nq : Int))) h12 (.int .i64 (E : Int))) h13 (.int .i64 0)
                  have F2 := other_set (j := 0) (set_two (x' := .int .u64 (nq : Int)) (y' := .int .i64 (E : Int)) (other_set (j := 1) (other_set (j := 0) K2 h21 (.slice a1 D.1.length c1)) h21 (.slice a2 D.2.length c2))) h23 (.int .i64 0)
                  have F3 := Lib.heap_setCell_same (i := 0) (other_set (j := 1) (other_set (j := 0) (other_set (j := 1) (other_set (j := 0) K3 h31 (.slice a1 D.1.length c1)) h31 (.slice a2 D.2.length c2)) h32 (.int .u64 (nq : Int))) h32 (.int .i64 (E : Int))) (.int .i64 0)
                  have DD := disk_aside (j := 0) (u := .int .i64 0) (disk_aside (j := 1) (u := .int .i64 (E : Int)) (disk_aside (j := 0) (u := .int .u64 (nq : Int)) (disk_aside (j := 1) (u := .slice a2 D.2.length c2) (disk_aside (j := 0) (u := .slice a1 D.1.length c1) D13 N1) (nostr_set N1 (by simp))) (nostr_set (nostr_set N2 (by simp)) (by simp))) (nostr_set (nostr_set (nostr_set N2 (by simp)) (by simp)) (by simp))) (nostr_set (nostr_set (nostr_set (nostr_set N3 (by simp)) (by simp)) (by simp)) (by simp))
                  have TT := own_set (j := 0) (u := .int .i64 0) (own_set (j := 1) (u := .int .i64 (E : Int)) (own_set (j := 0) (u := .int .u64 (nq : Int)) (own_set (j := 1) (u := .slice a2 D.2.length c2) (own_set (j := 0) (u := .slice a1 D.1.length c1) T13 l1) l1) l2) l2) l3
                  exact rdone_leaves rfl rfl rfl rfl rfl rfl F1 F2 F3 (below_set (below_set (below_set (below_set (below_set b13 g1) g1) g2) g2) g3).drew DD.drew ((Txt.lower TT g10.out).drew)
    · have e1 : decide ((0 : Int) < (d.2.length : Int)) = true := by
        have : 0 < d.2.length := List.length_pos_iff.2 hcz
        simp; omega
      have e2 : decide (0 < d.2.length) = true := decide_eq_true (List.length_pos_iff.2 hcz)
      have hr2 := Lib.hid (hR'.out.trans (rec_f2 hc0.out hcz))
      clear hcz
      go_wp2_with fail
      refine (HF.out 12 (by decide) _).mono ?_
      rintro e w4 ⟨rfl, rfl⟩
      go_wp2
      exact rfault_leaves rfl rfl rfl rfl rfl rfl HK.out.2.1 HK.out.2.2.1 HK.out.2.2.2.1 B3.out (Nat.le_refl _) hr2.out
  · have B2 := Lib.hid (hB.out.trans (b2.mono hB.out.size))
    have hr2 := hR'.out.trans (rec_f1 (by rw [← hC'.out]; exact ho))
    rw [← hC'.out] at hr2
    have hr3 := Lib.hid hr2
    have k12 := heap_below k1' b2
    have k22 := heap_below k2 b2
    have k32 := heap_below k3 b2
    clear c0 c1 hr2
    go_wp2
    exact rfault_leaves rfl rfl rfl rfl rfl rfl k12 k22 k32 B2.out (Nat.le_refl _) hr3.out
end Go.Proofs.YtmfbkelhegdmpaaGreatDoor
