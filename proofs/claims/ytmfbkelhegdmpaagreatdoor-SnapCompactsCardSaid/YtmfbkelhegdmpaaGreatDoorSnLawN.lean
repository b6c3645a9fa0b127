/- The walk of written, chapter 13 (snap): a device with records made of numbers. -/
import Derived.Test.YtmfbkelhegdmpaaGreatDoorSnLaws
import Derived.Test.YtmfbkelhegdmpaaGreatDoorSnLawE
import Derived.Test.YtmfbkelhegdmpaaGreatDoorSnBytes
import Derived.Test.YtmfbkelhegdmpaaGreatDoorSnShort
namespace Go.Proofs.YtmfbkelhegdmpaaGreatDoor
open Go.RowKit Disk11 Journal12 Sum2

abbrev stateB : List UInt8 := [115, 116, 97, 116, 101]
theorem results_cctt {fn : Func} {P : Program} {p q r s : Tmp} {t1 t2 : TypeId} (h : fn.results = #[.cell p t1, .cell q t2, .tmp r, .tmp s]) (tmps : Array Value) (w : World) (v1 v2 v3 v4 : Value) (a b : Addr)
    (hp : tmps.getD p undef = .pointer (some a)) (hq : tmps.getD q undef = .pointer (some b)) (hr : tmps.getD r undef = v3) (hs : tmps.getD s undef = v4) (h1 : (loadVar t1 a).run P w = .ok v1 w) (h2 : (loadVar t2 b).run P w = .ok v2 w) :
    (results fn tmps).run P w = .ok (.tuple #[v1, v2, v3, v4]) w := by
  have hp' : tmps[p]?.getD undef = .pointer (some a) := by simpa using hp
  have hq' : tmps[q]?.getD undef = .pointer (some b) := by simpa using hq
  have hr' : tmps[r]?.getD undef = v3 := by simpa using hr
  have hs' : tmps[s]?.getD undef = v4 := by simpa using hs
  simp [results, h, hp', hq', hr', hs', asAddr, Result.andThen, h1, h2]
/-- What written answers. -/
def WrittenPost (w : World) (e : Ending) (w' : World) : Prop :=
  ∃ (D : Dev) (L : List (List UInt8)) (ab : Option Addr) (cb : Nat) (ac : Option Addr) (cc : Nat) (al : Option Addr) (cl : Nat), e = .returned (.tuple #[.agg #[.slice ab D.1.length cb, .slice ac D.2.length cc], .agg #[.int .u64 1, .int .i64 ((sizeJ (withS (putN 1) L) : Nat) : Int)], .slice al L.length cl, .bool true]) ∧
    LaidS 12 D 1 stateB L ∧ D.2.length ≤ 6 ∧ L.length ≤ 6 ∧ (∀ x ∈ L, x.length ≤ 12) ∧ DiskIs w' D (.agg #[.slice ab D.1.length cb, .slice ac D.2.length cc]) ∧ Txt w' w.heap.size (.slice al L.length cl) L ∧ Below w.heap.size w w'
theorem drew_heap {w : World} {b : Nat} {o : Obj} (h : w.heap[b]? = some o) : w.drew.heap[b]? = some o := h
theorem size12 {L : List (List UInt8)} (h : ∀ x ∈ L, x.length ≤ 12) : sizeJ (withS (putN 1) L) ≤ 23 * L.length := by
  rw [size_with, putN1]
  induction L with
  | nil => exact Nat.zero_le _
  | cons x L ih =>
    have h1 := ih (fun y hy => h y (List.mem_cons_of_mem _ hy))
    have h2 := h x (List.mem_cons_self ..)
    simp only [List.map_cons, List.sum_cons, List.length_cons, List.length_nil] at *
    omega
/-- One more record. -/
theorem more_laid {D : Dev} {L : List (List UInt8)} {j : Nat} {x : List UInt8} (h : LaidS 12 D 1 stateB L) (hD : D.2.length ≤ j) (hL : L.length = j) (hj : j ≤ 6) (hx : x.length ≤ 12) (hs : ∀ y ∈ L, y.length ≤ 12) :
    ∃ A : Dev, appendS D (1, ((sizeJ (withS (putN 1) L) : Nat) : Int)) x = (A, (1, ((sizeJ (withS (putN 1) (L ++ [x])) : Nat) : Int)), 0) ∧ LaidS 12 A 1 stateB (L ++ [x]) ∧ A.2.length ≤ j + 1 ∧ (∀ y ∈ L ++ [x], y.length ≤ 12) ∧
      A = (D.1, D.2 ++ [(((64 * (2 * (12 / 4)) + sizeJ (withS (putN 1) L) : Nat) : Int), formJ (putN 1 ++ x))]) := by
  have hz := size12 hs
  obtain ⟨h1, h2⟩ := append_laid (r := x) h (by omega) (by omega) (by omega)
  refine ⟨_, h1, h2, ?_, ?_, rfl⟩
  · show (D.2 ++ [_]).length ≤ j + 1
    rw [List.length_append, List.length_singleton]; omega
  · intro y hy
    rcases List.mem_append.1 hy with h | h
    · exact hs y h
    · rw [List.mem_singleton.1 h]; exact hx
set_option maxHeartbeats 8000000 in
set_option maxRecDepth 100000 in
theorem written_any13 (nums : List Int) (v : Value) (w : World) (hwf : ∀ n ∈ nums, I64 n) (hr : Row w 1 v nums.length (nums.map fun n => .int .i64 n)) (ht : Tab w) :
    Calls Tryz.prog 30 #[v] w (WrittenPost w) := by
  obtain ⟨va, vc, rfl, _⟩ := hr.slice
  obtain ⟨D0, e1, e2, e3⟩ := format_laid 12 stateB (by decide) (by decide) (by decide)
  have hl0 : D0.1.length = 12 := e3.2.1
  have hl1 : D0.2.length = 0 := by rw [e2]; rfl
  have HF := Lib.hid (fun W t => (Format_any13 12 (by unfold I64; omega) stateB W (by decide) t).mono (fun _ _ => snap_open e1))
  rw [show ((0 : Nat) : Int) = 0 from rfl, show ((1 : Nat) : Int) = 1 from rfl] at HF
  have R0 := Lib.hid hr
  have HW := Lib.hid hwf
  have hT := Lib.hid ht
  have E3 := Lib.hid (And.intro e3 hl1)
  obtain ⟨k0, k1, hsz, hbl⟩ := alloc2 w (.cells #[.slice none 0 0, .slice none 0 0] 29) (.cells #[.int .u64 0, .int .i64 0] 32)
  have B1 := Lib.hid hbl
  clear hr hwf ht e1 e2 e3 hl0 hl1 hbl hsz
  go_enter Tryz.func30, Tryz.ntmps30
  go_upto_region 1 with (fail)
  generalize (w.alloc (.cells #[.slice none 0 0, .slice none 0 0] 29)).alloc (.cells #[.int .u64 0, .int .i64 0] 32) = W1 at *
  go_wp2_with fail
  refine (HF.out _ (hT.out.below B1.out)).mono ?_
  rintro e w2 ⟨a2, n2, c2, m2, rfl, D2, b2⟩
  obtain ⟨J0, J1, hs2, b3⟩ := alloc2 w2 (.cells #[.slice a2 D0.1.length n2, .slice c2 D0.2.length m2] 29) (.cells #[.int .u64 1, .int .i64 0] 32)
  have b23 := b2.trans (b3.mono b2.size)
  have K0 := heap_below k0 b23
  have K1 := heap_below k1 b23
  have D3 := D2.below b3
  have B3 := Lib.hid (B1.out.trans (b23.mono B1.out.size))
  have lw2 : w.heap.size + 1 < w2.heap.size := (Array.getElem?_eq_some_iff.1 (heap_below k1 b2)).1
  clear b2 b3 b23 k0 k1 D2 B1 HF
  go_upto_region 5 with (fail)
  have lw3 : w2.heap.size + 1 < ((w2.alloc (.cells #[.slice a2 D0.1.length n2, .slice c2 D0.2.length m2] 29)).alloc (.cells #[.int .u64 1, .int .i64 0] 32)).heap.size := by rw [hs2]; omega
  generalize (w2.alloc (.cells #[.slice a2 D0.1.length n2, .slice c2 D0.2.length m2] 29)).alloc (.cells #[.int .u64 1, .int .i64 0] 32) = W3 at *
  clear hs2
  go_wp2
  go_loopw [6, 10] (fun rv i wr => ∃ (j : Nat) (D : Dev) (L : List (List UInt8)) (a : Option Addr) (n : Nat) (c : Option Addr) (m : Nat), i = .int .i64 (j : Int) ∧ j ≤ 6 ∧ j ≤ nums.length ∧ Hid (LaidS 12 D 1 stateB L ∧ D.2.length ≤ j ∧ L.length = j ∧ (∀ x ∈ L, x.length ≤ 12)) ∧
      wr.heap[w2.heap.size]? = some (.cells #[.slice a D.1.length n, .slice c D.2.length m] 29 (0, 0)) ∧ wr.heap[w2.heap.size + 1]? = some (.cells #[.int .u64 1, .int .i64 ((sizeJ (withS (putN 1) L) : Nat) : Int)] 32 (0, 0)) ∧ DiskIs wr D (.agg #[.slice a D.1.length n, .slice c D.2.length m]) ∧
      wr.heap[w.heap.size]? = some (.cells #[.slice none 0 0, .slice none 0 0] 29 (0, 0)) ∧ wr.heap[w.heap.size + 1]? = some (.cells #[.int .u64 0, .int .i64 0] 32 (0, 0)) ∧ Txt wr W3.heap.size rv L ∧ ShortB wr rv ∧ Below w.heap.size w wr ∧ W3.heap.size ≤ wr.heap.size) (fun _ i _ => 6 - (intOf i).toNat)
  case atStart => exact ⟨0, D0, [], a2, n2, c2, m2, rfl, Nat.zero_le _, Nat.zero_le _, Lib.hid ⟨E3.out.1, by rw [E3.out.2]; exact Nat.zero_le _, rfl, by simp⟩, J0, J1, D3, K0, K1, Txt.nil _ _, ShortB.nil _, B3.out, Nat.le_refl _⟩
  case round =>
    clear J0 J1 K0 K1 D3 B3
    obtain ⟨j, D, L, a, n, c, m, rfl, hj6, hjl, hP, J0, J1, D3, K0, K1, tO, tS, hbl, hsz⟩ := hrel
    have hl7 : w.heap.size + 1 < w2.heap.size := lw2
    obtain ⟨p1, h1⟩ : ∃ q, decide ((j : Int) < (nums.length : Int)) = q := ⟨_, rfl⟩
    have h1' : decide (j < nums.length) = p1 := by rw [← h1]; simp
    obtain ⟨p2, h2⟩ : ∃ q, decide ((j : Int) < 6) = q := ⟨_, rfl⟩
    have h2' : decide (j < 6) = p2 := by rw [← h2]; simp; omega
    have STATE := Lib.hid (And.intro J0 (And.intro J1 (And.intro D3 (And.intro K0 (And.intro K1 (And.intro tO (And.intro hbl hsz)))))))
    cases hpp : p1 && p2
    case false =>
      have d0 := cell2_0 J0
      have d1 := cell2_1 J0
      have d2 := cell2_0 J1
      have d3 := cell2_1 J1
      have z0 := cell2_0 K0
      have z1 := cell2_1 K0
      have z2 := cell2_0 K1
      have z3 := cell2_1 K1
      have f0 := frozen2 K0 0
      have f1 := frozen2 K0 1
      have f2 := frozen2 K1 0
      have f3 := frozen2 K1 1
      have h3 : ¬ (w.heap.size = w2.heap.size) := by omega
      have h4 : ¬ (w.heap.size + 1 = w2.heap.size) := by omega
      have h5 : ¬ (w.heap.size = w2.heap.size + 1) := by omega
      obtain ⟨ra, rc, rfl⟩ := tO.slice
      clear J0 J1 D3 K0 K1 tO tS hbl hsz
      have hp12 : p1 = false ∨ (p1 = true ∧ p2 = false) := by cases p1; exact Or.inl rfl; cases p2; exact Or.inr ⟨rfl, rfl⟩; cases hpp
      clear hpp
      rcases hp12 with rfl | ⟨rfl, rfl⟩
      all_goals go_upto_region 18 with (fail)
      all_goals go_region_held3 (fun W => W.cell? { block := w2.heap.size, off := 0, spot := none } = some (.slice a D.1.length n) ∧ W.cell? { block := w2.heap.size, off := 1, spot := none } = some (.slice c D.2.length m) ∧ W.cell? { block := w2.heap.size + 1, off := 0, spot := none } = some (.int .u64 1) ∧ W.cell? { block := w2.heap.size + 1, off := 1, spot := none } = some (.int .i64 ((sizeJ (withS (putN 1) L) : Nat) : Int))) ((first | (simp only [World.cell?_setCell_far, ne_eq, h3, h4, h5, not_false_eq_true, d0, d1, d2, d3, and_self]; done) | go_keep)) (fail)
      all_goals
        go_wp2
        obtain ⟨_, _, D3, K0, K1, tO, hbl, _⟩ := STATE.out
        obtain ⟨P1, P2, P3, P4⟩ := hP.out
        have hne : w.heap.size ≠ w.heap.size + 1 := by omega
        have N0 := no_str K0 (by simp)
        have N1 := no_str K1 (by simp)
        have F0 := other_set (j := 1) (other_set (j := 0) (set_two (x' := .slice a D.1.length n) (y' := .slice c D.2.length m) K0) hne (.int .u64 1)) hne (.int .i64 ((sizeJ (withS (putN 1) L) : Nat) : Int))
        have F1 := set_two (x' := .int .u64 1) (y' := (.int .i64 ((sizeJ (withS (putN 1) L) : Nat) : Int))) (other_set (j := 1) (other_set (j := 0) K1 hne.symm (.slice a D.1.length n)) hne.symm (.slice c D.2.length m))
        have DD := disk_aside (j := 1) (u := (.int .i64 ((sizeJ (withS (putN 1) L) : Nat) : Int))) (disk_aside (j := 0) (u := .int .u64 1) (disk_aside (j := 1) (u := .slice c D.2.length m) (disk_aside (j := 0) (u := .slice a D.1.length n) D3 N0) (nostr_set N0 (by simp))) (nostr_set (nostr_set N1 (by simp)) (by simp))) (nostr_set (nostr_set (nostr_set N1 (by simp)) (by simp)) (by simp))
        have TT := own_set (b := w.heap.size + 1) (j := 1) (u := (.int .i64 ((sizeJ (withS (putN 1) L) : Nat) : Int))) (own_set (b := w.heap.size + 1) (j := 0) (u := .int .u64 1) (own_set (b := w.heap.size) (j := 1) (u := .slice c D.2.length m) (own_set (b := w.heap.size) (j := 0) (u := .slice a D.1.length n) tO (by omega)) (by omega)) (by omega)) (by omega)
        exact bodyPost_ret (results_cctt rfl _ _ _ _ _ _ _ _ rfl rfl rfl rfl (load_disk F0) (load_log F1)) rfl ⟨D, L, a, n, c, m, ra, rc, rfl, P1, by omega, by omega, P4, DD.drew, Txt.lower (Txt.drew TT) (by omega), (below_set (below_set (below_set (below_set hbl (Nat.le_refl _)) (Nat.le_refl _)) (by omega)) (by omega)).drew⟩
    case true =>
      have hlt : j < nums.length := of_decide_eq_true (by rw [h1']; cases p1; cases hpp; rfl)
      have hlt6 : j < 6 := of_decide_eq_true (by rw [h2']; cases p2; rw [Bool.and_false] at hpp; cases hpp; rfl)
      have g1 : p1 = true := by rw [← h1']; exact decide_eq_true hlt
      have g2 : p2 = true := by rw [← h2']; exact decide_eq_true hlt6
      subst g1 g2
      obtain ⟨la, hla, lx⟩ := R0.out.cell (j := j) (x := .int .i64 nums[j]) (by rw [List.getElem?_map, List.getElem?_eq_getElem hlt]; rfl)
      cases hla
      have lx := cell_below hbl lx
      have hwj := HW.out _ (List.getElem_mem hlt)
      obtain ⟨z, hz⟩ : ∃ z, z = nums[j] := ⟨_, rfl⟩
      rw [← hz] at lx hwj
      obtain ⟨P1, P2, P3, P4⟩ := hP.out
      clear hz hpp
      obtain ⟨ra, rc, rfl⟩ := tO.slice
      have HX := Lib.hid (fun W => text_any13 z hwj W)
      go_wp2_with fail
      refine (HX.out _).mono ?_
      rintro e w4 ⟨x, hx, rfl, b4⟩
      have J0 := heap_below J0 b4
      have J1 := heap_below J1 b4
      have D4 := D3.below b4
      have K0 := heap_below K0 b4
      have K1 := heap_below K1 b4
      have tO := tO.below b4
      have tS := tS.below b4
      have hbl := hbl.trans (b4.mono hbl.size)
      have hsz : W3.heap.size ≤ w4.heap.size := Nat.le_trans hsz b4.size
      obtain ⟨A, q1, q2, q3, q4, q5⟩ := more_laid P1 P2 P3 (by omega) hx P4
      obtain ⟨L2, hL2⟩ : ∃ L2, L2 = L ++ [x] := ⟨_, rfl⟩
      have q6 : L2.length = j + 1 := by rw [hL2, List.length_append, P3]; rfl
      rw [← hL2] at q1 q2 q4
      clear q5
      have HA := Lib.hid (fun v W h t => (Append_any13 D v 1 ((sizeJ (withS (putN 1) L) : Nat) : Int) x W (by decide) (by omega) h t).mono (fun _ _ => snap_open q1))
      rw [show ((0 : Nat) : Int) = 0 from rfl, show ((1 : Nat) : Int) = 1 from rfl] at HA
      have Q := Lib.hid (And.intro q2 (And.intro q3 (And.intro q6 q4)))
      have HL2 := Lib.hid hL2
      have c0 := cell2_0 J0
      have c1 := cell2_1 J0
      have c2 := cell2_0 J1
      have c3 := cell2_1 J1
      have lx := cell_below b4 lx
      clear STATE D3 b4 q1 q2 q3 q4 q6 hL2 P1 P2 P3 P4
      go_wp2_with fail
      refine (HA.out _ _ D4 (hT.out.below hbl)).mono ?_
      rintro e w5 ⟨a5, n5, c5, m5, rfl, D5, b5⟩
      obtain ⟨I0, I1, hs5, b6⟩ := alloc2 w5 (.cells #[.slice a5 A.1.length n5, .slice c5 A.2.length m5] 29) (.cells #[.int .u64 1, .int .i64 ((sizeJ (withS (putN 1) L2) : Nat) : Int)] 32)
      have b56 := b5.trans (b6.mono b5.size)
      have J0 := heap_below J0 b56
      have J1 := heap_below J1 b56
      have K0 := heap_below K0 b56
      have K1 := heap_below K1 b56
      have D6 := D5.below b6
      have lx := cell_below b56 lx
      have hO5 : ∀ b, w5.heap.size ≤ b → (Value.slice ra L.length rc).ownBlock = none ∨ (Value.slice ra L.length rc).ownBlock ≠ some b := fun b hb => Or.inr (fun e => by have := (World.ownsRow.lt tO b e).2; have := b5.size; omega)
      have HO5 := Lib.hid hO5
      have tO := tO.below b56
      have tS := tS.below b56
      have hbl := hbl.trans (b56.mono hbl.size)
      have hsz5 : W3.heap.size ≤ w5.heap.size := Nat.le_trans hsz b5.size
      have lw5 : w2.heap.size + 1 < w5.heap.size := by omega
      clear c0 c1 c2 c3 b5 b6 b56 D5 D4 HA hO5
      go_upto_region 12 with (fail)
      have hs6 : w5.heap.size + 1 < ((w5.alloc (.cells #[.slice a5 A.1.length n5, .slice c5 A.2.length m5] 29)).alloc (.cells #[.int .u64 1, .int .i64 ((sizeJ (withS (putN 1) L2) : Nat) : Int)] 32)).heap.size := by rw [hs5]; omega
      generalize (w5.alloc (.cells #[.slice a5 A.1.length n5, .slice c5 A.2.length m5] 29)).alloc (.cells #[.int .u64 1, .int .i64 ((sizeJ (withS (putN 1) L2) : Nat) : Int)] 32) = W6 at *
      clear hs5
      go_wp2_with fail
      refine (Mod_some z 3 _ hwj (by decide) (by decide)).mono ?_
      rintro e w1y ⟨q, hq, rfl, rfl⟩
      have hq' := Lib.hid hq
      clear hq
      by_cases hq0 : q = 0
      · subst hq0
        obtain ⟨B, hB⟩ : ∃ B, B = A := ⟨_, rfl⟩
        obtain ⟨W7, hW7⟩ : ∃ W7, W7 = W6 := ⟨_, rfl⟩
        rw [← hB] at Q I0 D6 ⊢
        rw [← hW7] at lx I0 I1 J0 J1 D6 K0 K1 tO tS hbl hs6 ⊢
        clear hB hW7
        have DB := D6
        have hsz : W3.heap.size ≤ W7.heap.size := by omega
        clear D6 lx
        go_upto_region 16 with (fail)
        have d0 := cell2_0 I0
        have d1 := cell2_1 I0
        have d2 := cell2_0 I1
        have d3 := cell2_1 I1
        have z0 := cell2_0 J0
        have z1 := cell2_1 J0
        have z2 := cell2_0 J1
        have z3 := cell2_1 J1
        have f0 := frozen2 J0 0
        have f1 := frozen2 J0 1
        have f2 := frozen2 J1 0
        have f3 := frozen2 J1 1
        have h3 : ¬ (w2.heap.size = w5.heap.size) := by omega
        have h4 : ¬ (w2.heap.size + 1 = w5.heap.size) := by omega
        have h5 : ¬ (w2.heap.size = w5.heap.size + 1) := by omega
        have HK := Lib.hid (And.intro J0 (And.intro J1 (And.intro DB (And.intro K0 (And.intro K1 (And.intro tO (And.intro tS (And.intro hbl hsz))))))))
        clear J0 J1 DB K0 K1 tO tS hbl hsz I0 I1
        go_region_held3 (fun W => W.cell? { block := w5.heap.size, off := 0, spot := none } = some (.slice a5 B.1.length n5) ∧ W.cell? { block := w5.heap.size, off := 1, spot := none } = some (.slice c5 B.2.length m5) ∧ W.cell? { block := w5.heap.size + 1, off := 0, spot := none } = some (.int .u64 1) ∧ W.cell? { block := w5.heap.size + 1, off := 1, spot := none } = some (.int .i64 ((sizeJ (withS (putN 1) L2) : Nat) : Int))) ((first | (simp only [World.cell?_setCell_far, ne_eq, h3, h4, h5, not_false_eq_true, d0, d1, d2, d3, and_self]; done) | go_keep)) (fail)
        all_goals
          obtain ⟨J0, J1, DB, K0, K1, tO, tS, hbl, hsz⟩ := HK.out
          have hne : w2.heap.size ≠ w2.heap.size + 1 := by omega
          have HO2 : ∀ b, b < W3.heap.size → (Value.slice ra L.length rc).ownBlock = none ∨ (Value.slice ra L.length rc).ownBlock ≠ some b := fun b hb => Or.inr (fun e => by have := (World.ownsRow.lt tO b e).1; omega)
          have N0 := no_str J0 (by simp)
          have N1 := no_str J1 (by simp)
          have F0 := other_set (j := 1) (other_set (j := 0) (set_two (x' := (.slice a5 B.1.length n5)) (y' := (.slice c5 B.2.length m5)) J0) hne (.int .u64 1)) hne (.int .i64 ((sizeJ (withS (putN 1) L2) : Nat) : Int))
          have F1 := set_two (x' := .int .u64 1) (y' := (.int .i64 ((sizeJ (withS (putN 1) L2) : Nat) : Int))) (other_set (j := 1) (other_set (j := 0) J1 hne.symm (.slice a5 B.1.length n5)) hne.symm (.slice c5 B.2.length m5))
          have DD := disk_aside (j := 1) (u := (.int .i64 ((sizeJ (withS (putN 1) L2) : Nat) : Int))) (disk_aside (j := 0) (u := .int .u64 1) (disk_aside (j := 1) (u := (.slice c5 B.2.length m5)) (disk_aside (j := 0) (u := (.slice a5 B.1.length n5)) DB N0) (nostr_set N0 (by simp))) (nostr_set (nostr_set N1 (by simp)) (by simp))) (nostr_set (nostr_set (nostr_set N1 (by simp)) (by simp)) (by simp))
          have K0 := other_set (j := 1) (other_set (j := 0) (other_set (j := 1) (other_set (j := 0) (K0) (show w.heap.size ≠ w2.heap.size by omega) (.slice a5 B.1.length n5)) (show w.heap.size ≠ w2.heap.size by omega) (.slice c5 B.2.length m5)) (show w.heap.size ≠ w2.heap.size + 1 by omega) (.int .u64 1)) (show w.heap.size ≠ w2.heap.size + 1 by omega) (.int .i64 ((sizeJ (withS (putN 1) L2) : Nat) : Int))
          have K1 := other_set (j := 1) (other_set (j := 0) (other_set (j := 1) (other_set (j := 0) (K1) (show w.heap.size + 1 ≠ w2.heap.size by omega) (.slice a5 B.1.length n5)) (show w.heap.size + 1 ≠ w2.heap.size by omega) (.slice c5 B.2.length m5)) (show w.heap.size + 1 ≠ w2.heap.size + 1 by omega) (.int .u64 1)) (show w.heap.size + 1 ≠ w2.heap.size + 1 by omega) (.int .i64 ((sizeJ (withS (putN 1) L2) : Nat) : Int))
          have TT := own_set (b := w2.heap.size + 1) (j := 1) (u := (.int .i64 ((sizeJ (withS (putN 1) L2) : Nat) : Int))) (own_set (b := w2.heap.size + 1) (j := 0) (u := (.int .u64 1)) (own_set (b := w2.heap.size) (j := 1) (u := (.slice c5 B.2.length m5)) (own_set (b := w2.heap.size) (j := 0) (u := (.slice a5 B.1.length n5)) (tO) (by omega)) (by omega)) (by omega)) (by omega)
          have SS := ShortB.set (b := w2.heap.size + 1) (j := 1) (u := (.int .i64 ((sizeJ (withS (putN 1) L2) : Nat) : Int))) (ShortB.set (b := w2.heap.size + 1) (j := 0) (u := (.int .u64 1)) (ShortB.set (b := w2.heap.size) (j := 1) (u := (.slice c5 B.2.length m5)) (ShortB.set (b := w2.heap.size) (j := 0) (u := (.slice a5 B.1.length n5)) (tS) (HO2 _ (by omega))) (HO2 _ (by omega))) (HO2 _ (by omega))) (HO2 _ (by omega))
          have BB := below_set (b := w2.heap.size + 1) (j := 1) (u := (.int .i64 ((sizeJ (withS (putN 1) L2) : Nat) : Int))) (below_set (b := w2.heap.size + 1) (j := 0) (u := (.int .u64 1)) (below_set (b := w2.heap.size) (j := 1) (u := (.slice c5 B.2.length m5)) (below_set (b := w2.heap.size) (j := 0) (u := (.slice a5 B.1.length n5)) (hbl) (by omega)) (by omega)) (by omega)) (by omega)
          have hX : W7.heap.size ≤ ((World.setCell (World.setCell (World.setCell (World.setCell W7 ⟨w2.heap.size, 0, none⟩ (.slice a5 B.1.length n5)) ⟨w2.heap.size, 1, none⟩ (.slice c5 B.2.length m5)) ⟨w2.heap.size + 1, 0, none⟩ (.int .u64 1)) ⟨w2.heap.size + 1, 1, none⟩ (.int .i64 ((sizeJ (withS (putN 1) L2) : Nat) : Int)))).heap.size := by simp
          have F0 := drew_heap F0
          have F1 := drew_heap F1
          have K0 := drew_heap K0
          have K1 := drew_heap K1
          have DD := DD.drew
          have TT := Txt.drew TT
          have SS := SS.below (Below.refl _ _).drew
          have BB := BB.drew
          have hX : W3.heap.size ≤ (World.drew (World.setCell (World.setCell (World.setCell (World.setCell W7 ⟨w2.heap.size, 0, none⟩ (.slice a5 B.1.length n5)) ⟨w2.heap.size, 1, none⟩ (.slice c5 B.2.length m5)) ⟨w2.heap.size + 1, 0, none⟩ (.int .u64 1)) ⟨w2.heap.size + 1, 1, none⟩ (.int .i64 ((sizeJ (withS (putN 1) L2) : Nat) : Int)))).heap.size := Nat.le_trans hsz hX
          generalize World.drew (World.setCell (World.setCell (World.setCell (World.setCell W7 ⟨w2.heap.size, 0, none⟩ (.slice a5 B.1.length n5)) ⟨w2.heap.size, 1, none⟩ (.slice c5 B.2.length m5)) ⟨w2.heap.size + 1, 0, none⟩ (.int .u64 1)) ⟨w2.heap.size + 1, 1, none⟩ (.int .i64 ((sizeJ (withS (putN 1) L2) : Nat) : Int))) = W8 at *
          clear J0 J1 DB tO tS hbl N0 N1 HO2
          obtain ⟨P1, P2, P3, P4⟩ := hP.out
          obtain ⟨Q1, Q2, Q3, Q4⟩ := Q.out
          have QG := LaidS.good Q1
          have HP4 := Lib.hid P4
          have HQG := Lib.hid QG
          clear P1 P2 P4 Q1 Q2 Q3 Q4 QG
          go_wp2_with (at_builtin; refine app_short rfl rfl W3.heap.size rfl TT SS HP4.out hx (by simp [go_sem]) (by omega) hX ?_; intro g cap w9 t9 s9 b9 hg9 gr9)
          have F0 := (b9.block _ (by omega)).trans F0
          have F1 := (b9.block _ (by omega)).trans F1
          have K0 := (b9.block _ (by omega)).trans K0
          have K1 := (b9.block _ (by omega)).trans K1
          have DD := disk_short SS gr9 DD HQG.out
          have b10 := BB.trans (b9.mono (by omega))
          rw [← HL2.out, P3] at t9
          rw [P3] at s9
          exact ⟨⟨j + 1, B, L2, a5, n5, c5, m5, by go_num, hlt6, hlt, Q, F0, F1, DD, K0, K1, t9, s9, b10, Nat.le_trans hX b9.size⟩, by simp [intOf]; omega⟩
      · have hq1 : decide ((q : Int) > 0) = true := by simp; omega
        have hq2 : decide (0 < q) = true := by simp; omega
        obtain ⟨Q1, Q2, Q3, Q4⟩ := Q.out
        obtain ⟨y1, y2⟩ := sync_laid Q1
        have HY := Lib.hid (fun v W h => sync_open (w := W) (v := v) y1 h)
        obtain ⟨B, hB⟩ : ∃ B : Dev, B = (chunk (readAll A), []) := ⟨_, rfl⟩
        have hB2 : B.2.length = 0 := by rw [hB]; rfl
        rw [← hB] at HY y2
        have Q := Lib.hid (And.intro y2 (And.intro (show B.2.length ≤ j + 1 by omega) (And.intro Q3 Q4)))
        have c0 := cell2_0 I0
        have c1 := cell2_1 I0
        clear Q1 Q2 Q3 Q4 y1 y2 hB lx hB2
        go_wp2_with fail
        refine (HY.out _ _ D6).mono ?_
        rintro e w7 ⟨a7, n7, c7, m7, rfl, D7, b7⟩
        clear c0 c1
        have I0 := heap_below I0 b7
        have I1 := heap_below I1 b7
        have J0 := heap_below J0 b7
        have J1 := heap_below J1 b7
        have K0 := heap_below K0 b7
        have K1 := heap_below K1 b7
        have tO := tO.below b7
        have tS := tS.below b7
        have hbl := hbl.trans (b7.mono hbl.size)
        have hsz : W3.heap.size ≤ w7.heap.size := Nat.le_trans (by omega) b7.size
        have N0 := no_str I0 (by simp)
        have c0 := cell2_0 I0
        have c1 := cell2_1 I0
        have f0 := frozen2 I0 0
        have f1 := frozen2 I0 1
        have I0' := set_two (x' := (.slice a7 B.1.length n7)) (y' := (.slice c7 B.2.length m7)) I0
        have I1 := other_set (j := 1) (other_set (j := 0) I1 (show _ ≠ w5.heap.size by omega) (.slice a7 B.1.length n7)) (show _ ≠ w5.heap.size by omega) (.slice c7 B.2.length m7)
        have J0 := other_set (j := 1) (other_set (j := 0) J0 (show _ ≠ w5.heap.size by omega) (.slice a7 B.1.length n7)) (show _ ≠ w5.heap.size by omega) (.slice c7 B.2.length m7)
        have J1 := other_set (j := 1) (other_set (j := 0) J1 (show _ ≠ w5.heap.size by omega) (.slice a7 B.1.length n7)) (show _ ≠ w5.heap.size by omega) (.slice c7 B.2.length m7)
        have K0 := other_set (j := 1) (other_set (j := 0) K0 (show _ ≠ w5.heap.size by omega) (.slice a7 B.1.length n7)) (show _ ≠ w5.heap.size by omega) (.slice c7 B.2.length m7)
        have K1 := other_set (j := 1) (other_set (j := 0) K1 (show _ ≠ w5.heap.size by omega) (.slice a7 B.1.length n7)) (show _ ≠ w5.heap.size by omega) (.slice c7 B.2.length m7)
        have DB := disk_aside (j := 1) (u := (.slice c7 B.2.length m7)) (disk_aside (j := 0) (u := (.slice a7 B.1.length n7)) D7 N0) (nostr_set N0 (by simp))
        have tO := World.ownsRow.kept (World.ownsRow.kept tO (grown_cell w7 w5.heap.size 0 (.slice a7 B.1.length n7)) (HO5.out _ (Nat.le_refl _))) (grown_cell _ w5.heap.size 1 (.slice c7 B.2.length m7)) (HO5.out _ (Nat.le_refl _))
        have tS := ShortB.set (b := w5.heap.size) (j := 1) (u := (.slice c7 B.2.length m7)) (ShortB.set (b := w5.heap.size) (j := 0) (u := (.slice a7 B.1.length n7)) tS (HO5.out _ (Nat.le_refl _))) (HO5.out _ (Nat.le_refl _))
        have hbl := below_set (b := w5.heap.size) (j := 1) (u := (.slice c7 B.2.length m7)) (below_set (b := w5.heap.size) (j := 0) (u := (.slice a7 B.1.length n7)) hbl (by omega)) (by omega)
        have hsz : W3.heap.size ≤ (World.setCell (World.setCell w7 ⟨w5.heap.size, 0, none⟩ (.slice a7 B.1.length n7)) ⟨w5.heap.size, 1, none⟩ (.slice c7 B.2.length m7)).heap.size := by simpa using hsz
        go_upto_region 16 with (fail)
        generalize (World.setCell (World.setCell w7 ⟨w5.heap.size, 0, none⟩ (.slice a7 B.1.length n7)) ⟨w5.heap.size, 1, none⟩ (.slice c7 B.2.length m7)) = W7 at *
        have I0 := I0'
        clear I0' D6 D7 b7 c0 c1 f0 f1 N0
        have d0 := cell2_0 I0
        have d1 := cell2_1 I0
        have d2 := cell2_0 I1
        have d3 := cell2_1 I1
        have z0 := cell2_0 J0
        have z1 := cell2_1 J0
        have z2 := cell2_0 J1
        have z3 := cell2_1 J1
        have f0 := frozen2 J0 0
        have f1 := frozen2 J0 1
        have f2 := frozen2 J1 0
        have f3 := frozen2 J1 1
        have h3 : ¬ (w2.heap.size = w5.heap.size) := by omega
        have h4 : ¬ (w2.heap.size + 1 = w5.heap.size) := by omega
        have h5 : ¬ (w2.heap.size = w5.heap.size + 1) := by omega
        have HK := Lib.hid (And.intro J0 (And.intro J1 (And.intro DB (And.intro K0 (And.intro K1 (And.intro tO (And.intro tS (And.intro hbl hsz))))))))
        clear J0 J1 DB K0 K1 tO tS hbl hsz I0 I1
        go_region_held3 (fun W => W.cell? { block := w5.heap.size, off := 0, spot := none } = some (.slice a7 B.1.length n7) ∧ W.cell? { block := w5.heap.size, off := 1, spot := none } = some (.slice c7 B.2.length m7) ∧ W.cell? { block := w5.heap.size + 1, off := 0, spot := none } = some (.int .u64 1) ∧ W.cell? { block := w5.heap.size + 1, off := 1, spot := none } = some (.int .i64 ((sizeJ (withS (putN 1) L2) : Nat) : Int))) ((first | (simp only [World.cell?_setCell_far, ne_eq, h3, h4, h5, not_false_eq_true, d0, d1, d2, d3, and_self]; done) | go_keep)) (fail)
        all_goals
          obtain ⟨J0, J1, DB, K0, K1, tO, tS, hbl, hsz⟩ := HK.out
          have hne : w2.heap.size ≠ w2.heap.size + 1 := by omega
          have HO2 : ∀ b, b < W3.heap.size → (Value.slice ra L.length rc).ownBlock = none ∨ (Value.slice ra L.length rc).ownBlock ≠ some b := fun b hb => Or.inr (fun e => by have := (World.ownsRow.lt tO b e).1; omega)
          have N0 := no_str J0 (by simp)
          have N1 := no_str J1 (by simp)
          have F0 := other_set (j := 1) (other_set (j := 0) (set_two (x' := (.slice a7 B.1.length n7)) (y' := (.slice c7 B.2.length m7)) J0) hne (.int .u64 1)) hne (.int .i64 ((sizeJ (withS (putN 1) L2) : Nat) : Int))
          have F1 := set_two (x' := .int .u64 1) (y' := (.int .i64 ((sizeJ (withS (putN 1) L2) : Nat) : Int))) (other_set (j := 1) (other_set (j := 0) J1 hne.symm (.slice a7 B.1.length n7)) hne.symm (.slice c7 B.2.length m7))
          have DD := disk_aside (j := 1) (u := (.int .i64 ((sizeJ (withS (putN 1) L2) : Nat) : Int))) (disk_aside (j := 0) (u := .int .u64 1) (disk_aside (j := 1) (u := (.slice c7 B.2.length m7)) (disk_aside (j := 0) (u := (.slice a7 B.1.length n7)) DB N0) (nostr_set N0 (by simp))) (nostr_set (nostr_set N1 (by simp)) (by simp))) (nostr_set (nostr_set (nostr_set N1 (by simp)) (by simp)) (by simp))
          have K0 := other_set (j := 1) (other_set (j := 0) (other_set (j := 1) (other_set (j := 0) (K0) (show w.heap.size ≠ w2.heap.size by omega) (.slice a7 B.1.length n7)) (show w.heap.size ≠ w2.heap.size by omega) (.slice c7 B.2.length m7)) (show w.heap.size ≠ w2.heap.size + 1 by omega) (.int .u64 1)) (show w.heap.size ≠ w2.heap.size + 1 by omega) (.int .i64 ((sizeJ (withS (putN 1) L2) : Nat) : Int))
          have K1 := other_set (j := 1) (other_set (j := 0) (other_set (j := 1) (other_set (j := 0) (K1) (show w.heap.size + 1 ≠ w2.heap.size by omega) (.slice a7 B.1.length n7)) (show w.heap.size + 1 ≠ w2.heap.size by omega) (.slice c7 B.2.length m7)) (show w.heap.size + 1 ≠ w2.heap.size + 1 by omega) (.int .u64 1)) (show w.heap.size + 1 ≠ w2.heap.size + 1 by omega) (.int .i64 ((sizeJ (withS (putN 1) L2) : Nat) : Int))
          have TT := own_set (b := w2.heap.size + 1) (j := 1) (u := (.int .i64 ((sizeJ (withS (putN 1) L2) : Nat) : Int))) (own_set (b := w2.heap.size + 1) (j := 0) (u := (.int .u64 1)) (own_set (b := w2.heap.size) (j := 1) (u := (.slice c7 B.2.length m7)) (own_set (b := w2.heap.size) (j := 0) (u := (.slice a7 B.1.length n7)) (tO) (by omega)) (by omega)) (by omega)) (by omega)
          have SS := ShortB.set (b := w2.heap.size + 1) (j := 1) (u := (.int .i64 ((sizeJ (withS (putN 1) L2) : Nat) : Int))) (ShortB.set (b := w2.heap.size + 1) (j := 0) (u := (.int .u64 1)) (ShortB.set (b := w2.heap.size) (j := 1) (u := (.slice c7 B.2.length m7)) (ShortB.set (b := w2.heap.size) (j := 0) (u := (.slice a7 B.1.length n7)) (tS) (HO2 _ (by omega))) (HO2 _ (by omega))) (HO2 _ (by omega))) (HO2 _ (by omega))
          have BB := below_set (b := w2.heap.size + 1) (j := 1) (u := (.int .i64 ((sizeJ (withS (putN 1) L2) : Nat) : Int))) (below_set (b := w2.heap.size + 1) (j := 0) (u := (.int .u64 1)) (below_set (b := w2.heap.size) (j := 1) (u := (.slice c7 B.2.length m7)) (below_set (b := w2.heap.size) (j := 0) (u := (.slice a7 B.1.length n7)) (hbl) (by omega)) (by omega)) (by omega)) (by omega)
          have hX : W7.heap.size ≤ ((World.setCell (World.setCell (World.setCell (World.setCell W7 ⟨w2.heap.size, 0, none⟩ (.slice a7 B.1.length n7)) ⟨w2.heap.size, 1, none⟩ (.slice c7 B.2.length m7)) ⟨w2.heap.size + 1, 0, none⟩ (.int .u64 1)) ⟨w2.heap.size + 1, 1, none⟩ (.int .i64 ((sizeJ (withS (putN 1) L2) : Nat) : Int)))).heap.size := by simp
          have F0 := drew_heap F0
          have F1 := drew_heap F1
          have K0 := drew_heap K0
          have K1 := drew_heap K1
          have DD := DD.drew
          have TT := Txt.drew TT
          have SS := SS.below (Below.refl _ _).drew
          have BB := BB.drew
          have hX : W3.heap.size ≤ (World.drew (World.setCell (World.setCell (World.setCell (World.setCell W7 ⟨w2.heap.size, 0, none⟩ (.slice a7 B.1.length n7)) ⟨w2.heap.size, 1, none⟩ (.slice c7 B.2.length m7)) ⟨w2.heap.size + 1, 0, none⟩ (.int .u64 1)) ⟨w2.heap.size + 1, 1, none⟩ (.int .i64 ((sizeJ (withS (putN 1) L2) : Nat) : Int)))).heap.size := Nat.le_trans hsz hX
          generalize World.drew (World.setCell (World.setCell (World.setCell (World.setCell W7 ⟨w2.heap.size, 0, none⟩ (.slice a7 B.1.length n7)) ⟨w2.heap.size, 1, none⟩ (.slice c7 B.2.length m7)) ⟨w2.heap.size + 1, 0, none⟩ (.int .u64 1)) ⟨w2.heap.size + 1, 1, none⟩ (.int .i64 ((sizeJ (withS (putN 1) L2) : Nat) : Int))) = W8 at *
          clear J0 J1 DB tO tS hbl N0 N1 HO2
          obtain ⟨P1, P2, P3, P4⟩ := hP.out
          obtain ⟨Q1, Q2, Q3, Q4⟩ := Q.out
          have QG := LaidS.good Q1
          have HP4 := Lib.hid P4
          have HQG := Lib.hid QG
          clear P1 P2 P4 Q1 Q2 Q3 Q4 QG
          go_wp2_with (at_builtin; refine app_short rfl rfl W3.heap.size rfl TT SS HP4.out hx (by simp [go_sem]) (by omega) hX ?_; intro g cap w9 t9 s9 b9 hg9 gr9)
          have F0 := (b9.block _ (by omega)).trans F0
          have F1 := (b9.block _ (by omega)).trans F1
          have K0 := (b9.block _ (by omega)).trans K0
          have K1 := (b9.block _ (by omega)).trans K1
          have DD := disk_short SS gr9 DD HQG.out
          have b10 := BB.trans (b9.mono (by omega))
          rw [← HL2.out, P3] at t9
          rw [P3] at s9
          exact ⟨⟨j + 1, B, L2, a7, n7, c7, m7, by go_num, hlt6, hlt, Q, F0, F1, DD, K0, K1, t9, s9, b10, Nat.le_trans hX b9.size⟩, by simp [intOf]; omega⟩
end Go.Proofs.YtmfbkelhegdmpaaGreatDoor
