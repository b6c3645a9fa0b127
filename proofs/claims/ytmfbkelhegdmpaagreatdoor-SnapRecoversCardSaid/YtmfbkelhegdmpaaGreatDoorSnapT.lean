/- The walk of the reference's Recover, chapter 13 (snap). -/
import Derived.Test.YtmfbkelhegdmpaaGreatDoorSnapEnds
import Derived.Test.YtmfbkelhegdmpaaGreatDoorSnapHJ
import Derived.Test.YtmfbkelhegdmpaaGreatDoorSnapCG
import Derived.Test.YtmfbkelhegdmpaaGreatDoorJournalIN
import Derived.Test.YtmfbkelhegdmpaaGreatDoorJournalQ
import Derived.Test.YtmfbkelhegdmpaaGreatDoorJournalE
import Derived.Test.YtmfbkelhegdmpaaGreatDoorDiskMU
import Derived.Deep.CutBlock
namespace Go.Proofs.YtmfbkelhegdmpaaGreatDoor
open Go.RowKit Disk11 Journal12 Sum2

theorem results_cttct {fn : Func} {P : Program} {p q r s t : Tmp} {t1 t2 : TypeId} (h : fn.results = #[.cell p t1, .tmp q, .tmp r, .cell s t2, .tmp t]) (tmps : Array Value) (w : World) (v1 v2 v3 v4 v5 : Value) (a b : Addr)
    (hp : tmps.getD p undef = .pointer (some a)) (hq : tmps.getD q undef = v2) (hr : tmps.getD r undef = v3) (hs : tmps.getD s undef = .pointer (some b)) (ht : tmps.getD t undef = v5)
    (h1 : (loadVar t1 a).run P w = .ok v1 w) (h2 : (loadVar t2 b).run P w = .ok v4 w) :
    (results fn tmps).run P w = .ok (.tuple #[v1, v2, v3, v4, v5]) w := by
  have hp' : tmps[p]?.getD undef = .pointer (some a) := by simpa using hp
  have hq' : tmps[q]?.getD undef = v2 := by simpa using hq
  have hr' : tmps[r]?.getD undef = v3 := by simpa using hr
  have hs' : tmps[s]?.getD undef = .pointer (some b) := by simpa using hs
  have ht' : tmps[t]?.getD undef = v5 := by simpa using ht
  simp [results, h, hp', hq', hr', hs', ht', asAddr, Result.andThen, h1, h2]
/-- The end: the boxes' cells are just stored. -/
theorem ret5 {fn : Func} {p q r s t : Tmp} (hfn : fn.results = #[.cell p 29, .tmp q, .tmp r, .cell s 32, .tmp t]) {a : Act} {w W : World} {b b' k g : Nat} {z : Int} {R : Dev × List UInt8 × List (List UInt8) × LogS × Nat} {x y x0 y0 vl : Value} {u0 v0 : Value} {D : List UInt8}
    (hp : a.tmps.getD p undef = .pointer (some ⟨b, 0, none⟩)) (hq : a.tmps.getD q undef = .string ⟨D.toArray⟩) (hr : a.tmps.getD r undef = vl) (hs : a.tmps.getD s undef = .pointer (some ⟨b', 0, none⟩)) (hts : a.tmps.getD t undef = .int .i64 (k : Int)) (ha : a.defers = [])
    (K2 : W.heap[b]? = some (.cells #[x0, y0] 29 (0, 0))) (K3 : W.heap[b']? = some (.cells #[u0, v0] 32 (0, 0))) (hne : b ≠ b')
    (n2 : ∀ s, Value.string s ∉ #[x0, y0].toList) (n2x : ∀ s, x ≠ .string s) (n2y : ∀ s, y ≠ .string s) (n3 : ∀ s, Value.string s ∉ #[u0, v0].toList)
    (hb : Below w.heap.size w W) (h1 : w.heap.size ≤ b) (h2 : w.heap.size ≤ b') (hd : DiskIs W R.1 (.agg #[x, y])) {B : Nat} (hl : Txt W B vl R.2.2.1) (hlb : b < B) (hlb' : b' < B) (e0 : R.2.1 = D) (e1 : R.2.2.2.1.1 = g) (e2 : R.2.2.2.1.2 = z) (e3 : R.2.2.2.2 = k) :
    bodyPost Tryz.prog fn (RecPost13 w R) .ret a ((((W.setCell ⟨b, 0, none⟩ x).setCell ⟨b, 1, none⟩ y).setCell ⟨b', 0, none⟩ (.int .u64 (g : Int))).setCell ⟨b', 1, none⟩ (.int .i64 z)) := by
  subst e0 e1 e2 e3
  have F2 := other_set (j := 1) (other_set (j := 0) (set_two (x' := x) (y' := y) K2) hne (.int .u64 (R.2.2.2.1.1 : Int))) hne (.int .i64 R.2.2.2.1.2)
  have F3 := set_two (x' := .int .u64 (R.2.2.2.1.1 : Int)) (y' := .int .i64 R.2.2.2.1.2) (other_set (j := 1) (other_set (j := 0) K3 hne.symm x) hne.symm y)
  have N2 := no_str K2 n2
  have N3 := no_str K3 n3
  have D := disk_aside (j := 1) (u := .int .i64 R.2.2.2.1.2) (disk_aside (j := 0) (u := .int .u64 (R.2.2.2.1.1 : Int)) (disk_aside (j := 1) (u := y) (disk_aside (j := 0) (u := x) hd N2) (nostr_set N2 n2x)) (nostr_set (nostr_set N3 n2x) n2y)) (nostr_set (nostr_set (nostr_set N3 n2x) n2y) (by simp))
  have T := own_set (j := 1) (u := .int .i64 R.2.2.2.1.2) (own_set (j := 0) (u := .int .u64 (R.2.2.2.1.1 : Int)) (own_set (j := 1) (u := y) (own_set (j := 0) (u := x) hl hlb) hlb) hlb') hlb'
  exact bodyPost_ret (results_cttct hfn _ _ _ _ _ _ _ _ _ hp hq hr hs hts (load_disk F2) (load_log F3)) ha ⟨_, _, rfl, D, Txt.lower T (by omega), below_set (below_set (below_set (below_set hb h1) h1) h2) h2⟩
theorem ret5_none {fn : Func} {p q r s t : Tmp} (hfn : fn.results = #[.cell p 29, .tmp q, .tmp r, .cell s 32, .tmp t]) {a : Act} {w W : World} {b b' k : Nat} {R : Dev × List UInt8 × List (List UInt8) × LogS × Nat} {x0 y0 : Value} {u0 v0 : Value}
    (hp : a.tmps.getD p undef = .pointer (some ⟨b, 0, none⟩)) (hq : a.tmps.getD q undef = .string ⟨#[]⟩) (hr : a.tmps.getD r undef = .slice none 0 0) (hs : a.tmps.getD s undef = .pointer (some ⟨b', 0, none⟩)) (hts : a.tmps.getD t undef = .int .i64 (k : Int)) (ha : a.defers = [])
    (K2 : W.heap[b]? = some (.cells #[x0, y0] 29 (0, 0))) (K3 : W.heap[b']? = some (.cells #[u0, v0] 32 (0, 0))) (hne : b ≠ b')
    (n2 : ∀ s, Value.string s ∉ #[x0, y0].toList) (n3 : ∀ s, Value.string s ∉ #[u0, v0].toList)
    (hb : Below w.heap.size w W) (h1 : w.heap.size ≤ b) (h2 : w.heap.size ≤ b') (hR : R = (none0, [], [], (0, 0), k)) :
    bodyPost Tryz.prog fn (RecPost13 w R) .ret a ((((W.setCell ⟨b, 0, none⟩ (.slice none 0 0)).setCell ⟨b, 1, none⟩ (.slice none 0 0)).setCell ⟨b', 0, none⟩ (.int .u64 0)).setCell ⟨b', 1, none⟩ (.int .i64 0)) :=
  ret5 (g := 0) (z := 0) (D := []) (B := b + b' + 1) hfn hp hq hr hs hts ha K2 K3 hne n2 (by simp) (by simp) n3 hb h1 h2 (by rw [hR]; exact DiskIs.none _) (by rw [hR]; exact Txt.nil _ _) (by omega) (by omega) (by rw [hR]) (by rw [hR]) (by rw [hR]) (by rw [hR])
theorem best_pair {d : Dev} {r0 r1 : Nat × List UInt8} (h0 : r0 = lookS (slotS d 0) 0) (h1 : r1 = lookS (slotS d 1) 1) : bestS d = if r0.1 < r1.1 then r1 else r0 := by
  unfold bestS; rw [← h0, ← h1]
theorem openN_cases (d : Dev) : ((chk d).1 ≠ 0 ∧ openN d = (chk d).1) ∨ ((chk d).1 = 0 ∧ d.1.length < 8 ∧ openN d = 2) ∨ ((chk d).1 = 0 ∧ ¬ d.1.length < 8 ∧ openN d = 0) := by
  unfold openN
  by_cases h1 : (chk d).1 ≠ 0
  · rw [if_pos h1]; exact .inl ⟨h1, rfl⟩
  · rw [if_neg h1]
    by_cases h2 : d.1.length < 8
    · rw [if_pos h2]; exact .inr (.inl ⟨by omega, h2, rfl⟩)
    · rw [if_neg h2]; exact .inr (.inr ⟨by omega, h2, rfl⟩)
set_option maxHeartbeats 8000000 in
set_option maxRecDepth 100000 in
theorem RRecover_any13 (d : Dev) (v : Value) (w : World) (h : DiskIs w d v) :
    Calls Tryz.prog 19 #[v] w (RecPost13 w (recoverS d)) := by
  have HO := Lib.hid (fun W h => RCheck_any d v W h)
  have HS0 := Lib.hid (fun W h hg h8 => Rsnapshot_any d v 0 (by decide) W h hg h8)
  have HS1 := Lib.hid (fun W h hg h8 => Rsnapshot_any d v 1 (by decide) W h hg h8)
  rw [show ((0 : Nat) : Int) = 0 from rfl] at HS0
  rw [show ((1 : Nat) : Int) = 1 from rfl] at HS1
  obtain ⟨r0, hr0⟩ : ∃ r, r = lookS (slotS d 0) 0 := ⟨_, rfl⟩
  obtain ⟨r1, hr1⟩ : ∃ r, r = lookS (slotS d 1) 1 := ⟨_, rfl⟩
  rw [← hr0] at HS0
  rw [← hr1] at HS1
  have hbp := Lib.hid (best_pair hr0 hr1)
  clear hr0 hr1
  obtain ⟨C, hC⟩ : ∃ C, C = chk d := ⟨_, rfl⟩
  rw [← hC] at HO
  have hoc := openN_cases d
  rw [← hC] at hoc
  obtain ⟨R, hR⟩ : ∃ R, R = recoverS d := ⟨_, rfl⟩
  rw [← hR]
  have hR' := Lib.hid hR
  obtain ⟨x2, hx2⟩ : ∃ x, x = ((2 * (d.1.length / 4) : Nat) : Int) := ⟨_, rfl⟩
  obtain ⟨x3, hx3⟩ : ∃ x, x = ((d.1.length - 2 * (d.1.length / 4) : Nat) : Int) := ⟨_, rfl⟩
  have HG := Lib.hid (fun (hb : d.1.length ≤ 4096) W => Rregion_any d.1.length hb W)
  have he : logRegV d.1.length = .agg #[.int .i64 ((2 * (d.1.length / 4) : Nat) : Int), .int .i64 ((d.1.length - 2 * (d.1.length / 4) : Nat) : Int)] := rfl
  have hreg : regS d.1.length = (x2, x3) := by rw [hx2, hx3]; rfl
  rw [← hx2, ← hx3] at he
  rw [he] at HG
  have hreg' := Lib.hid hreg
  have hgoodC := Lib.hid (show C.1 = 0 → Disk11.Good d from fun e => (chk_good d).1 (chk_ok (by rw [← hC]; exact e)))
  clear hC hR he hx2 hx3 hreg
  obtain ⟨ab, cb, ac, cc, rfl, _, _, _, _⟩ := h.form
  obtain ⟨WA, hWA⟩ : ∃ WA, (w.alloc (.cells #[.slice ab d.1.length cb, .slice ac d.2.length cc] 29)).alloc (.cells #[.slice none 0 0, .slice none 0 0] 29) = WA := ⟨_, rfl⟩
  obtain ⟨k0, k1, hsA, eA⟩ := alloc2 w (.cells #[.slice ab d.1.length cb, .slice ac d.2.length cc] 29) (.cells #[.slice none 0 0, .slice none 0 0] 29)
  rw [hWA] at k0 k1 hsA eA
  have eB := Go.Joins.below_alloc1 WA (.cells #[.int .u64 0, .int .i64 0] 32)
  have k2 := World.alloc_heap_new WA (.cells #[.int .u64 0, .int .i64 0] 32)
  rw [hsA] at k2
  have hB := Lib.hid (eA.trans (eB.mono eA.size))
  have K0 := heap_below k0 eB
  have K1 := heap_below k1 eB
  have K2 := k2
  have h0 := Lib.hid h
  clear h k0 k1 k2 eA eB
  go_enter Tryz.func19, Tryz.ntmps19
  go_upto_region 1 with (fail)
  generalize hW1 : WA.alloc (.cells #[.int .u64 0, .int .i64 0] 32) = W1 at *
  clear hW1 hWA hsA
  have c0 := cell2_0 K0
  have c1 := cell2_1 K0
  go_wp2_with fail
  refine (HO.out _ (h0.out.below hB.out)).mono ?_
  rintro e w2 ⟨rfl, b2⟩
  have B2 := Lib.hid (hB.out.trans (b2.mono hB.out.size))
  have J0 := heap_below K0 b2
  have J1 := heap_below K1 b2
  have J2 := heap_below K2 b2
  have lw : w.heap.size + 2 < w2.heap.size := (Array.getElem?_eq_some_iff.1 J2).1
  clear c0 c1 K0 K1 K2 b2 hB HO
  have c0 := cell2_0 J0
  have c1 := cell2_1 J0
  have z3 := cell2_0 J1
  have z4 := cell2_1 J1
  have z5 := cell2_0 J2
  have z6 := cell2_1 J2
  have f0 := frozen2 J1 0
  have f1 := frozen2 J1 1
  have f2 := frozen2 J2 0
  have f3 := frozen2 J2 1
  rcases hoc with ⟨o1, o2⟩ | ⟨o1, o2, o3⟩ | ⟨o1, o2, o3⟩
  · have hc1 : ((C.1 : Int) != 0) = true := by simp; omega
    have hr2 := hR'.out.trans (rec_f1 (by rw [o2]; exact o1))
    rw [o2] at hr2
    have hr3 := Lib.hid hr2
    clear o1 o2 hr2
    go_wp2
    exact ret5_none rfl rfl rfl rfl rfl rfl rfl J1 J2 (by omega) (by simp) (by simp) B2.out (by omega) (by omega) hr3.out
  · have hr2 := hR'.out.trans (rec_f1 (by rw [o3]; decide))
    rw [o3] at hr2
    have hr3 := Lib.hid hr2
    have t1 : decide ((d.1.length : Int) < 8) = true := by simp; omega
    have t2 : decide (d.1.length < 8) = true := by simp; omega
    rw [o1]
    have hk0 : ((0 : Nat) : Int) = 0 := rfl
    rw [hk0]
    clear o1 o2 o3 hr2 hk0
    go_wp2
    exact ret5_none rfl rfl rfl rfl rfl rfl rfl J1 J2 (by omega) (by simp) (by simp) B2.out (by omega) (by omega) hr3.out
  · have hgd := hgoodC.out o1
    have h4 := hgd.2.1
    have hgd' := Lib.hid hgd
    have h8 : 8 ≤ d.1.length := by omega
    have hc0 := Lib.hid o3
    have t1 : decide ((d.1.length : Int) < 8) = false := by simp; omega
    have t2 : decide (d.1.length < 8) = false := by simp; omega
    rw [o1]
    have hk0 : ((0 : Nat) : Int) = 0 := rfl
    rw [hk0]
    clear o1 o2 o3 hk0 hgd hgoodC
    by_cases hcz : d.2 = []
    · have e1 : decide ((0 : Int) < (d.2.length : Int)) = false := by rw [hcz]; rfl
      have e2 : decide (0 < d.2.length) = false := by rw [hcz]; rfl
      have hcz' := Lib.hid hcz
      clear hcz
      go_wp2_with fail
      refine (HS0.out _ (h0.out.below B2.out) hgd'.out h8).mono ?_
      rintro e w3 ⟨rfl, b3⟩
      have lw23 := b3.size
      have J0 := heap_below J0 b3
      have J1 := heap_below J1 b3
      have J2 := heap_below J2 b3
      have B3 := Lib.hid (B2.out.trans (b3.mono B2.out.size))
      clear c0 c1 z3 z4 z5 z6 f0 f1 f2 f3
      have c0 := cell2_0 J0
      have c1 := cell2_1 J0
      go_wp2_with fail
      refine (HS1.out _ (h0.out.below B3.out) hgd'.out h8).mono ?_
      rintro e w4 ⟨rfl, b4⟩
      have lw24 : w2.heap.size ≤ w4.heap.size := Nat.le_trans lw23 b4.size
      have J0 := heap_below J0 b4
      have J1 := heap_below J1 b4
      have J2 := heap_below J2 b4
      have B4 := Lib.hid (B3.out.trans (b4.mono B3.out.size))
      clear c0 c1
      have z3 := cell2_0 J1
      have z4 := cell2_1 J1
      have z5 := cell2_0 J2
      have z6 := cell2_1 J2
      have f0 := frozen2 J1 0
      have f1 := frozen2 J1 1
      have f2 := frozen2 J2 0
      have f3 := frozen2 J2 1
      obtain ⟨n0, hn0⟩ : ∃ n, n = r0.1 := ⟨_, rfl⟩
      obtain ⟨n1, hn1⟩ : ∃ n, n = r1.1 := ⟨_, rfl⟩
      obtain ⟨q, hq⟩ : ∃ q, q = if r0.1 < r1.1 then r1 else r0 := ⟨_, rfl⟩
      have hbq := hbp.out.trans hq.symm
      have hple : q.1 ≤ 1099511627776 := by
        have h : ∀ s i, (lookS s i).1 ≤ 1099511627776 := by
          intro s i
          unfold lookS
          split
          · exact Nat.zero_le _
          split
          · exact Nat.zero_le _
          split
          · exact Nat.zero_le _
          · dsimp only; omega
        rw [← hbq]; unfold bestS; split <;> exact h _ _
      have hbq' := Lib.hid hbq
      rw [← hn0, ← hn1] at hq ⊢
      have hn0' := Lib.hid hn0
      have hn1' := Lib.hid hn1
      have hq' := Lib.hid hq
      clear hbq hq hn0 hn1 hbp
      obtain ⟨lt, hlt⟩ : ∃ m, m = decide (n0 < n1) := ⟨_, rfl⟩
      have HLT := Lib.hid hlt
      clear hlt
      go_upto_region 10 with (fail)
      go_cut [62] from 60 to 62 (fun u W => u = .bool lt ∧ W = w4)
      case first =>
        have l1 : decide ((n0 : Int) < (n1 : Int)) = lt := by rw [HLT.out]; simp
        have l2 : decide (n0 < n1) = lt := HLT.out.symm
        clear hq' hn0' hn1' HLT
        go_wp2_with fail
        go_meet
        exact ⟨rfl, rfl⟩
      case rest =>
      obtain ⟨rfl, rfl⟩ := hcut
      obtain ⟨w4, hw4⟩ : ∃ w4, w4 = wc := ⟨_, rfl⟩
      subst hw4
      go_upto_if 62 with (fail)
      go_cut [9, 10] from 63 to 64 (fun u v W => u = .int .u64 (q.1 : Int) ∧ v = .string ⟨q.2.toArray⟩ ∧ W = w4)
      case first =>
        cases lt
        · have hqe := hq'.out
          rw [if_neg (by have := HLT.out; simpa using this)] at hqe
          have hqe' := Lib.hid hqe
          clear hqe HLT hq'
          go_wp2_with fail
          go_meet
          exact ⟨by rw [hqe'.out, hn0'.out], by rw [hqe'.out], rfl⟩
        · have hqe := hq'.out
          rw [if_pos (by have := HLT.out; simpa using this)] at hqe
          have hqe' := Lib.hid hqe
          clear hqe HLT hq'
          go_wp2_with fail
          go_meet
          exact ⟨by rw [hqe'.out, hn1'.out], by rw [hqe'.out], rfl⟩
      case rest =>
      obtain ⟨rfl, rfl, rfl⟩ := hcut
      obtain ⟨w4, hw4⟩ : ∃ w4, w4 = wc := ⟨_, rfl⟩
      subst hw4
      obtain ⟨nq, hnq⟩ : ∃ n, n = q.1 := ⟨_, rfl⟩
      rw [← hnq]
      have hnq' := Lib.hid hnq
      have hq1 : nq ≤ 1099511627776 := by rw [hnq]; exact hple
      clear hnq hple hn0' hn1' hq' HLT
      by_cases hq0 : nq = 0
      · have u1 : ((nq : Int) == 0) = true := by rw [hq0]; rfl
        have u2 : (nq == 0) = true := by rw [hq0]; rfl
        have hr2 := Lib.hid (hR'.out.trans (rec_f3 hc0.out hcz'.out (by rw [hbq'.out, ← hnq'.out]; exact hq0)))
        clear hq0
        go_wp2
        exact ret5_none rfl rfl rfl rfl rfl rfl rfl J1 J2 (by omega) (by simp) (by simp) B4.out (by omega) (by omega) hr2.out
      · have u1 : ((nq : Int) == 0) = false := by rw [beq_eq_false_iff_ne]; omega
        have u2 : (nq == 0) = false := by rw [beq_eq_false_iff_ne]; omega
        have hrc := Lib.hid (hR'.out.trans (rec_done hc0.out hcz'.out hbq'.out (by rw [← hnq'.out]; exact hq0)))
        obtain ⟨L, hL⟩ : ∃ L, L = recsJ (regJ d (regS d.1.length)) := ⟨_, rfl⟩
        obtain ⟨O, hO⟩ : ∃ O, O = ownS (putN q.1) L := ⟨_, rfl⟩
        obtain ⟨E, hE⟩ : ∃ E, E = sizeJ (L.take O.length) := ⟨_, rfl⟩
        obtain ⟨g1, g2, g3, g4, g5, g6, hE2, hL2, hLl, hOl, hLs⟩ := rec_log hc0.out hbq'.out hL hO hE
        obtain ⟨cl, hcl⟩ : ∃ c, c = (cleanJ d (regS d.1.length) (E : Int)).1 := ⟨_, rfl⟩
        rw [← hcl] at g3
        have hdc := Lib.hid (done_clean g5 g3)
        rw [hreg'.out] at g1 g2 g3 g6
        have HRp := Lib.hid (fun v W h => RReplay_any d v x2 x3 W h)
        have HPl := Lib.hid (fun v W h => RPlaces_any d v x2 x3 W h)
        have HCl := Lib.hid (fun v W h => RClean_any d v x2 x3 (E : Int) W h)
        have HCu := Lib.hid (fun v W h => RJCut_any d v x2 x3 (E : Int) W h)
        rw [g1] at HRp
        rw [g2] at HPl
        rw [g3] at HCl
        have hrs := Lib.hid g4
        have hen := Lib.hid g5
        have HPt := Lib.hid (fun W => RPut_any13 nq (by omega) W)
        obtain ⟨P, hP⟩ : ∃ P, P = putN nq := ⟨_, rfl⟩
        have hPl : P.length ≤ 6 := by rw [hP]; exact (putN_length nq hq1).2
        rw [← hP] at HPt
        rw [← hnq'.out, ← hP] at hO
        dsimp only at HRp HPl HCl
        rw [show ((0 : Nat) : Int) = 0 from rfl] at HRp HPl HCl
        have HGg := Lib.hid (HG.out h4)
        have hO' := Lib.hid hO
        have hE' := Lib.hid hE
        clear hq0 g1 g2 g3 g4 g5 g6 hcl hP hL hO hE HG
        have c0 := cell2_0 J0
        have c1 := cell2_1 J0
        go_wp2_with fail
        refine (HGg.out _).mono ?_
        rintro e w5 ⟨rfl, b5⟩
        have a5 := Go.Joins.below_alloc1 w5 (.cells #[.int .i64 x2, .int .i64 x3] 65)
        have JR := World.alloc_heap_new w5 (.cells #[.int .i64 x2, .int .i64 x3] 65)
        have lw5 : w4.heap.size ≤ w5.heap.size := b5.size
        have b5 := b5.trans (a5.mono b5.size)
        clear a5
        have J0 := heap_below J0 b5
        have J1 := heap_below J1 b5
        have J2 := heap_below J2 b5
        have B5 := Lib.hid (B4.out.trans (b5.mono B4.out.size))
        clear c0 c1
        clear z3 z4 z5 z6 f0 f1 f2 f3
        go_upto_region 15 with (fail)
        generalize w5.alloc (.cells #[.int .i64 x2, .int .i64 x3] 65) = W5 at *
        have c0 := cell2_0 J0
        have c1 := cell2_1 J0
        have y1 := cell2_0 JR
        have y2 := cell2_1 JR
        go_wp2_with fail
        refine (HRp.out _ _ (h0.out.below B5.out)).mono ?_
        rintro e w6 ⟨va, rfl, tL, b6⟩
        obtain ⟨aL, cL, rfl⟩ := tL.slice
        clear y1 y2
        have JR := heap_below JR b6
        have J0 := heap_below J0 b6
        have J1 := heap_below J1 b6
        have J2 := heap_below J2 b6
        have B6 := Lib.hid (B5.out.trans (b6.mono B5.out.size))
        clear c0 c1
        have c0 := cell2_0 J0
        have c1 := cell2_1 J0
        have y1 := cell2_0 JR
        have y2 := cell2_1 JR
        go_wp2_with fail
        refine (HPl.out _ _ (h0.out.below B6.out)).mono ?_
        rintro e w7 ⟨vb, rfl, nO, b7⟩
        obtain ⟨aO, cO, rfl⟩ := nO.slice
        clear y1 y2
        have JR := heap_below JR b7
        have tL := tL.below b7
        have J0 := heap_below J0 b7
        have J1 := heap_below J1 b7
        have J2 := heap_below J2 b7
        have B7 := Lib.hid (B6.out.trans (b7.mono B6.out.size))
        clear c0 c1
        go_wp2_with fail
        refine (HPt.out _).mono ?_
        rintro e w10 ⟨rfl, b10⟩
        have JR := heap_below JR b10
        have tL10 := Lib.hid (Row.of_own (tL.below b10))
        have nO10 := Lib.hid (Row.of_own (nO.below b10))
        clear tL nO
        have J0 := heap_below J0 b10
        have J1 := heap_below J1 b10
        have J2 := heap_below J2 b10
        have B10 := Lib.hid (B7.out.trans (b10.mono B7.out.size))
        have hOl' : (offsJ 0 L).length = L.length := offsJ_length 0 L
        go_upto_block 1 with (fail)
        go_cut [15, 20] from 88 to 126 (fun u v W => ∃ (aR : Option Addr) (cR : Nat), u = .int .i64 (E : Int) ∧ v = .slice aR O.length cR ∧ Txt W w10.heap.size (.slice aR O.length cR) O ∧ Below w10.heap.size w10 W)
        case first =>
          have HLs := Lib.hid hLs
          have zP : (⟨P.toArray⟩ : ByteArray).size = P.length := rfl
          clear hLs HRp HPl HCl HCu hrs hen hdc hrc HPt J0 J1 J2 JR
          go_wp2_with fail
          go_loopw [15, 20, 21] (fun en ov i wr => ∃ (j : Nat), i = .int .i64 (j : Int) ∧ j ≤ O.length ∧ en = .int .i64 ((sizeJ L : Nat) : Int) ∧ Txt wr w10.heap.size ov (O.take j) ∧ Below w10.heap.size w10 wr) (fun _ _ i _ => L.length - (intOf i).toNat)
          case atStart => exact ⟨0, rfl, Nat.zero_le _, rfl, Txt.nil _ _, Below.refl _ _⟩
          case round =>
            obtain ⟨j, rfl, hj, rfl, tO, hblw⟩ := hrel
            by_cases hlt : j < L.length
            · have hlt' : decide ((j : Int) < L.length) = true := by simp; omega
              obtain ⟨la, hla, lx⟩ := tL10.out.cell (strVals_at L j hlt)
              cases hla
              have lx := cell_below hblw lx
              have hxl := HLs.out _ (List.getElem_mem hlt)
              have hst := own_step hO'.out hj hlt
              have hof := intVals_at13 (offsJ 0 L) j _ (offsJ_at 0 L j hlt)
              obtain ⟨x, hx⟩ : ∃ x, x = L[j] := ⟨_, rfl⟩
              rw [← hx] at lx hxl hst
              rw [Nat.zero_add] at hof
              have zx : (⟨x.toArray⟩ : ByteArray).size = x.length := rfl
              clear hx
              by_cases hxP : x.length < P.length
              · have s1 : decide ((x.length : Int) < (P.length : Int)) = true := by simp; omega
                have s2 : decide (x.length < P.length) = true := by simp; omega
                have o1 : j = O.length := by
                  rcases hst with ⟨_, o2, _⟩ | ⟨o1, _⟩
                  · have := congrArg List.length o2
                    rw [List.length_take] at this; omega
                  · exact o1
                have o1' := Lib.hid o1
                have TO := Lib.hid tO
                have U := Lib.hid hblw
                obtain ⟨oa, hoa, ox⟩ := nO10.out.cell hof
                cases hoa
                have ox := cell_below hblw ox
                have hlO : decide ((j : Int) < ((offsJ 0 L).length : Int)) = true := by rw [hOl']; exact hlt'
                clear o1 tO hblw hof
                go_wp2_with fail
                go_meet
                obtain ⟨av, cv, hov⟩ := TO.out.slice
                have e1 : O.take j = O := by rw [o1'.out]; exact List.take_length
                rw [e1] at hov
                have TT := TO.out
                rw [e1, hov] at TT
                exact ⟨av, cv, congrArg (fun z : Nat => Value.int .i64 (z : Int)) (by rw [hE'.out, o1'.out]), hov, TT, U.out⟩
              · have s1 : decide ((x.length : Int) < (P.length : Int)) = false := by simp; omega
                have s2 : decide (x.length < P.length) = false := by simp; omega
                have hs1 := sub_low x P.length (by omega)
                obtain ⟨Y, hY⟩ : ∃ Y, Y = x.take P.length := ⟨_, rfl⟩
                rw [← hY] at hs1 hst
                rcases hst with ⟨o1, o2, o3⟩ | ⟨o1, o2⟩
                · have hyb : (Y == P) = true := beq_iff_eq.2 o2
                  have hs2 := sub_high x P.length (by omega)
                  obtain ⟨y, hy⟩ : ∃ y, y = x.drop P.length := ⟨_, rfl⟩
                  rw [← hy] at hs2 o3
                  have o3' := Lib.hid o3
                  have o1' := Lib.hid o1
                  obtain ⟨av, cv, rfl⟩ := tO.slice
                  have htl : (O.take j).length = j := by rw [List.length_take]; omega
                  have htl' := Lib.hid htl
                  have U := Lib.hid hblw
                  have hbs := hblw.size
                  clear o1 o2 o3 hy hof hY hblw htl
                  go_wp2_with (at_builtin; refine app_str (n := y) rfl rfl w10.heap.size rfl tO (by simp [go_sem]) (by rw [htl'.out]; omega) hbs ?_; intro g cap w8 t8 b8 hg8 hgr8)
                  rw [← o3'.out, htl'.out] at t8
                  have U2 := Lib.hid (U.out.trans b8)
                  go_wp2
                  exact ⟨⟨j + 1, by go_num, o1'.out, rfl, t8, U2.out⟩, by simp [intOf]; omega⟩
                · have hyb : (Y == P) = false := beq_eq_false_iff_ne.2 o2
                  clear o2 hY
                  have o1' := Lib.hid o1
                  have TO := Lib.hid tO
                  have U := Lib.hid hblw
                  obtain ⟨oa, hoa, ox⟩ := nO10.out.cell hof
                  cases hoa
                  have ox := cell_below hblw ox
                  have hlO : decide ((j : Int) < ((offsJ 0 L).length : Int)) = true := by rw [hOl']; exact hlt'
                  clear o1 tO hblw hof
                  go_wp2_with fail
                  go_meet
                  obtain ⟨av, cv, hov⟩ := TO.out.slice
                  have e1 : O.take j = O := by rw [o1'.out]; exact List.take_length
                  rw [e1] at hov
                  have TT := TO.out
                  rw [e1, hov] at TT
                  exact ⟨av, cv, congrArg (fun z : Nat => Value.int .i64 (z : Int)) (by rw [hE'.out, o1'.out]), hov, TT, U.out⟩
            · have hlt' : decide ((j : Int) < L.length) = false := by simp; omega
              have hjO : j = O.length := by omega
              have TO := Lib.hid tO
              have U := Lib.hid hblw
              have hj' := Lib.hid hjO
              have hOL := Lib.hid (show O.length = L.length by omega)
              clear hjO tO hblw
              go_wp2_with fail
              go_meet
              obtain ⟨av, cv, hov⟩ := TO.out.slice
              have e1 : O.take j = O := by rw [hj'.out]; exact List.take_length
              rw [e1] at hov
              have TT := TO.out
              rw [e1, hov] at TT
              exact ⟨av, cv, congrArg (fun z : Nat => Value.int .i64 (z : Int)) (by rw [hE'.out, hOL.out, List.take_length]), hov, TT, U.out⟩
        case rest =>
          obtain ⟨aR, cR, rfl, rfl, tR, b11⟩ := hcut
          have lw10 : w5.heap.size < w10.heap.size := (Array.getElem?_eq_some_iff.1 JR).1
          have JR := heap_below JR b11
          have J0 := heap_below J0 b11
          have J1 := heap_below J1 b11
          have J2 := heap_below J2 b11
          have B11 := Lib.hid (B10.out.trans (b11.mono B10.out.size))
          have hOB : ∀ b, wc.heap.size ≤ b → ((Value.slice aR O.length cR).ownBlock = none ∨ (Value.slice aR O.length cR).ownBlock ≠ some b) := fun b hb => Or.inr (fun e => by have := (World.ownsRow.lt tR b e).2; omega)
          have HOB := Lib.hid hOB
          have T11 := Lib.hid tR
          have hw11 := b11.size
          have c0 := cell2_0 J0
          have c1 := cell2_1 J0
          have y1 := cell2_0 JR
          have y2 := cell2_1 JR
          clear tR b11 tL10 nO10 hLs hOB b10
          go_wp2_with fail
          refine (HCl.out _ _ (h0.out.below B11.out)).mono ?_
          rintro e w12 ⟨rfl, b12⟩
          clear y1 y2 c0 c1
          have T12 := Lib.hid (T11.out.below b12)
          have hw12 := b12.size
          have JR := heap_below JR b12
          have J0 := heap_below J0 b12
          have J1 := heap_below J1 b12
          have J2 := heap_below J2 b12
          have B12 := Lib.hid (B11.out.trans (b12.mono B11.out.size))
          have c0 := cell2_0 J0
          have c1 := cell2_1 J0
          have a0 := Lib.hid (Go.Joins.below_alloc1 w12 (.cells #[] 9))
          have n0' := Lib.hid (World.alloc_heap_new w12 (.cells #[] 9))
          have hrow := h0.out.below (B12.out.trans (a0.out.mono B12.out.size))
          obtain ⟨vb0, vc0, hv0, hrow0, _⟩ := hrow
          cases hv0
          have R0 := Lib.hid hrow0
          have c0a := cell_below a0.out c0
          clear hrow0
          go_upto_if 140 with (at_builtin; refine wpList_plain rfl ?_; intro K hK; refine wp_app_row infoStr rfl (by decide) Tryz.underlying26 rfl w12.heap.size rfl n0'.out (Nat.le_refl _) rfl R0.out (strVals_one _) (by unfold maxLen; omega) (by omega) (by simp) ?_; intro ad' c' w13 o13 b13 g13; refine hK _ _ ?_)
          have ab := a0.out.trans b13
          have bz : (.cells #[.slice ad' d.1.length c', .slice none 0 0] 29 : Obj) = (.cells #[.slice ad' d.1.length c', .slice none 0 0] 29 : Obj) := rfl
          have a14 := Go.Joins.below_alloc1 w13 (.cells #[.slice ad' d.1.length c', .slice none 0 0] 29)
          have KD := World.alloc_heap_new w13 (.cells #[.slice ad' d.1.length c', .slice none 0 0] 29)
          have DN : DiskIs (w13.alloc (.cells #[.slice ad' d.1.length c', .slice none 0 0] 29)) d (.agg #[.slice ad' d.1.length c', .slice none 0 0]) := (show DiskIs w13 d (.agg #[.slice ad' d.1.length c', .slice none 0 0]) from ⟨_, _, rfl, Row.of_own o13, by rw [hcz'.out]; exact Row.nil _ _⟩).below a14
          have Q1 := heap_below (heap_below J1 ab) a14
          have Q2 := heap_below (heap_below J2 ab) a14
          have QR := heap_below (heap_below JR ab) a14
          have B13 := B12.out.trans (ab.mono B12.out.size)
          have Q5 := B13.trans (a14.mono B13.size)
          have T14 := (T12.out.below ab).below a14
          have lw13 := ab.size
          have hcl0 := Lib.hid (show d.2.length = 0 by rw [hcz'.out]; rfl)
          clear c0 c1 c0a J0 J1 J2 JR ab a14 o13 b13 g13 B13 bz
          generalize w13.alloc (.cells #[.slice ad' d.1.length c', .slice none 0 0] 29) = W14 at *
          obtain ⟨D, hD⟩ : ∃ D, D = doneS d := ⟨_, rfl⟩
          have hD' := Lib.hid hD
          clear hD
          have gb : w.heap.size ≤ w13.heap.size := by omega
          have hrs' := hrs
          go_cut [141] from 141 to 147 (fun u W => ∃ (a1 : Option Addr) (c1 : Nat) (a2 : Option Addr) (c2 : Nat), W.heap[w13.heap.size]? = some (.cells #[.slice a1 D.1.length c1, .slice a2 D.2.length c2] 29 (0, 0)) ∧ DiskIs W D (.agg #[.slice a1 D.1.length c1, .slice a2 D.2.length c2]) ∧ W.heap[w.heap.size + 1]? = some (.cells #[.slice none 0 0, .slice none 0 0] 29 (0, 0)) ∧ W.heap[w.heap.size + 2]? = some (.cells #[.int .u64 0, .int .i64 0] 32 (0, 0)) ∧ Txt W w10.heap.size (.slice aR O.length cR) O ∧ Below w.heap.size w W)
          case first =>
            cases cl
            · have hDe := Lib.hid (hD'.out.trans hdc.out)
              rw [if_neg (by simp), hreg'.out] at hDe
              obtain ⟨r4, h4r⟩ : ∃ r, r = cutJ d (x2, x3) (E : Int) := ⟨_, rfl⟩
              have HCu2 := Lib.hid (fun v W h => RJCut_any d v x2 x3 (E : Int) W h)
              rw [← h4r] at HCu2 hDe
              have d0 := cell2_0 KD
              have d1 := cell2_1 KD
              have y1 := cell2_0 QR
              have y2 := cell2_1 QR
              have DN' := Lib.hid DN
              clear h4r hrs hen hrc hdc HRp HPl HCl HCu DN
              go_wp2_with fail
              refine (HCu2.out _ _ DN'.out).mono ?_
              rintro e w15 ⟨v', rfl, D15, b15⟩
              obtain ⟨a15, c15, e15, m15, rfl, _⟩ := D15.form
              have P0 := heap_below KD b15
              have P1 := heap_below Q1 b15
              have P2 := heap_below Q2 b15
              have T15 := T14.below b15
              have P5 := Q5.trans (b15.mono Q5.size)
              have f0 := frozen2 P0 0
              have f1 := frozen2 P0 1
              clear d0 d1 y1 y2 b15
              have d0 := cell2_0 P0
              have d1 := cell2_1 P0
              have ht1 := World.ownsRow.kept T15 (grown_cell w15 w13.heap.size 0 (.slice a15 r4.1.1.length c15)) (HOB.out _ (by omega))
              have ht2 := World.ownsRow.kept ht1 (grown_cell _ w13.heap.size 1 (.slice e15 r4.1.2.length m15)) (HOB.out _ (by omega))
              have HT2 := Lib.hid ht2
              clear ht1 ht2
              go_wp2_with fail
              go_meet
              have hDr := hDe.out
              subst hDr
              exact ⟨a15, c15, e15, m15, set_two P0, disk_apart (j := 1) (disk_apart (j := 0) D15 P0) (Lib.heap_setCell_same (i := 0) P0 _), two_other (by omega) P1, two_other (by omega) P2, HT2.out, below_set (below_set P5 gb) gb⟩
            · have hDe := Lib.hid (hD'.out.trans hdc.out)
              rw [if_pos rfl] at hDe
              clear hrs hen hrc hdc HRp HPl HCl HCu
              go_wp2_with fail
              go_meet
              have hDr := hDe.out
              subst hDr
              exact ⟨ad', c', none, 0, by rw [hcl0.out]; exact KD, by rw [hcl0.out]; exact DN, Q1, Q2, T14, Q5⟩
          case rest =>
            obtain ⟨a1, c1, a2, c2, K0, D13, K1, K2, T13, b13⟩ := hcut
            have hRe : R = (D, q.2, O, (nq, (E : Int)), 0) := by rw [hrc.out, hD'.out, hrs.out, hen.out, hnq'.out]
            have hRe' := Lib.hid hRe
            clear hRe hrc hD' hrs hen HRp HPl HCl HCu hdc hO' hE' hnq' hR' h0 HPt Q1 Q2 QR Q5 KD DN T14
            have d0 := cell2_0 K0
            have d1 := cell2_1 K0
            have z3 := cell2_0 K1
            have z4 := cell2_1 K1
            have z5 := cell2_0 K2
            have z6 := cell2_1 K2
            have f0 := frozen2 K1 0
            have f1 := frozen2 K1 1
            have f2 := frozen2 K2 0
            have f3 := frozen2 K2 1
            go_wp2
            exact ret5 (g := nq) (z := (E : Int)) (k := 0) (D := q.2) (B := w10.heap.size) rfl rfl rfl rfl rfl rfl rfl K1 K2 (by omega) (by simp) (by simp) (by simp) (by simp) b13 (by omega) (by omega) (by rw [hRe'.out]; exact D13) (by rw [hRe'.out]; exact T13) (by omega) (by omega) (by rw [hRe'.out]) (by rw [hRe'.out]) (by rw [hRe'.out]) (by rw [hRe'.out])
    · have e1 : decide ((0 : Int) < (d.2.length : Int)) = true := by
        have : 0 < d.2.length := List.length_pos_iff.2 hcz
        simp; omega
      have e2 : decide (0 < d.2.length) = true := decide_eq_true (List.length_pos_iff.2 hcz)
      have hr2 := Lib.hid (hR'.out.trans (rec_f2 hc0.out hcz))
      clear hcz
      go_wp2
      exact ret5_none rfl rfl rfl rfl rfl rfl rfl J1 J2 (by omega) (by simp) (by simp) B2.out (by omega) (by omega) hr2.out
end Go.Proofs.YtmfbkelhegdmpaaGreatDoor
