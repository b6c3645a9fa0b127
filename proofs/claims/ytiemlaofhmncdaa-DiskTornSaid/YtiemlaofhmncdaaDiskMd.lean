/- The walk of Made, chapter 11 (disk): a valid device out of numbers. -/
import Derived.Test.YtiemlaofhmncdaaKitN
import Derived.Test.YtiemlaofhmncdaaDiskH
import Derived.Test.YtiemlaofhmncdaaDiskW
namespace Go.Proofs.Ytiemlaofhmncdaa
open Go.RowKit Disk11

theorem I64_wrap (a : Int) : I64 (wrap64 a) := by unfold I64 wrap64; omega
theorem makeU64 (w : World) : (Instr.makeSlice 61 (.int .i64 64) (.int .i64 64)).run Try.prog w = .ok (.slice (some ⟨w.heap.size, 0, none⟩) 64 64) (w.alloc (.cells (tab 64 fun _ => .int .u8 0) 5)) := makeU8 64 (by decide) w
theorem I64_of {x : Int} (h : (Lit.int .i64 x).wf = true) : I64 x := by
  simp [Lit.wf, IntKind.min, IntKind.max, IntKind.bits, IntKind.signed] at h
  unfold I64; omega
def MadeOK (d : Dev) : Prop := Disk11.Good d ∧ d.1.length ≤ 4 ∧ d.2.length ≤ 6

def MadePost (w : World) (e : Ending) (w' : World) : Prop := ∃ (d : Dev) (ab ac : Option Addr) (cb cc : Nat), e = .returned (.agg #[.slice ab d.1.length cb, .slice ac d.2.length cc]) ∧ DiskIs w' d (.agg #[.slice ab d.1.length cb, .slice ac d.2.length cc]) ∧ MadeOK d ∧ Below w.heap.size w w'

set_option maxHeartbeats 4000000 in
set_option maxRecDepth 100000 in
theorem Made_any (l : List Int) (v : Value) (w : World) (hl : l.length ≤ maxLen) (hwf : ∀ n ∈ l, (Lit.int .i64 n).wf = true) (hrow : Row w 1 v l.length (l.map fun n => .int .i64 n)) :
    Calls Try.prog 27 #[v] w (MadePost w) := by
  have hlm := hl
  unfold maxLen at hlm
  clear hl
  have HAt := Lib.hid (fun W i h hi => At_some l v i W h hwf hi)
  have HMod := Lib.hid (fun W a n ha h1 h2 => Mod_some a n W ha h1 h2)
  have hRow := Lib.hid hrow
  have hWf := Lib.hid hwf
  obtain ⟨ad, c, rfl, _⟩ := hrow.slice
  clear hrow hwf
  obtain ⟨k1, k2, hsz, hbl0⟩ := alloc2 w (.cells #[.slice none 0 0, .slice none 0 0] 25) (.cells #[.slice none 0 0, .slice none 0 0] 25)
  go_enter Try.func27, Try.ntmps27
  go_wp2_with fail
  generalize ((w.alloc (.cells #[.slice none 0 0, .slice none 0 0] 25)).alloc (.cells #[.slice none 0 0, .slice none 0 0] 25)) = W0 at *
  refine (HAt.out W0 0 (hRow.out.below hbl0) (by decide)).mono ?_
  rintro e w1 ⟨x0, hx0, rfl, rfl⟩
  go_wp2_with fail
  refine (HMod.out W0 x0 4 hx0 (by decide) (by decide)).mono ?_
  rintro e w1 ⟨m0, hm0, rfl, rfl⟩
  obtain ⟨nn, hnn⟩ : ∃ nn : Nat, (1 : Int) + (m0 : Int) = (nn : Int) := ⟨1 + m0, by omega⟩
  have hn1 : 1 ≤ nn := by omega
  have hn4 : nn ≤ 4 := by omega
  go_wp2
  clear hnn hm0 hx0
  go_loopw [5] (fun i wr => ∃ (k : Nat) (vb : Value) (bl : List (List UInt8)), i = .int .i64 k ∧ k ≤ nn ∧ bl.length = k ∧ (∀ b ∈ bl, b.length = 64) ∧ wr.heap[w.heap.size]? = some (.cells #[.slice none 0 0, .slice none 0 0] 25 (0, 0)) ∧ wr.heap[w.heap.size + 1]? = some (.cells #[vb, .slice none 0 0] 25 (0, 0)) ∧ Txt wr (w.heap.size + 2) vb bl ∧ Below w.heap.size w wr ∧ w.heap.size + 2 ≤ wr.heap.size) (fun i _ => nn - (intOf i).toNat)
  case atStart => exact ⟨0, _, [], rfl, Nat.zero_le _, rfl, by simp, k1, k2, Txt.nil _ _, hbl0, by omega⟩
  case round =>
    obtain ⟨k, vb, bl, rfl, hk, hbk, hb64, j1, j2, htx, hbl, hs2⟩ := hrel
    obtain ⟨Wm, rfl⟩ : ∃ W, W = wr := ⟨wr, rfl⟩
    obtain ⟨adb, cpb, rfl⟩ := htx.slice
    have hB64 := Lib.hid hb64
    have hBk := Lib.hid hbk
    clear hb64 hbk
    have c0 := cell2_0 j2
    have c1 := cell2_1 j2
    have f0 := frozen2 j2 0
    by_cases hlt : k < nn
    · have hlt' : decide ((k : Int) < nn) = true := by simp; omega
      have hmk := makeU64 Wm
      go_wp2
      go_loopw [7] (fun i wr => ∃ (j : Nat) (f : Nat → UInt8), i = .int .i64 j ∧ j ≤ 64 ∧ wr.heap[Wm.heap.size]? = some (.cells (tab 64 fun t => .int .u8 ((f t).toNat : Int)) 5 (0, 0)) ∧ Below Wm.heap.size Wm wr) (fun i _ => 64 - (intOf i).toNat)
      case atStart => exact ⟨0, fun _ => 0, rfl, by omega, World.alloc_heap_new Wm _, Go.Joins.below_alloc1 Wm _⟩
      case round =>
        obtain ⟨j, f, rfl, hj, hq, hbq⟩ := hrel
        have hwq := hbl.trans (hbq.mono hbl.size)
        by_cases hjt : j < 64
        · have hjt' : decide ((j : Int) < 64) = true := by simp; omega
          have t0 := tab_cell hq hjt
          have t1 := tab_frozen hq j
          go_wp2_with fail
          refine (HAt.out _ 1 (hRow.out.below hwq) (by decide)).mono ?_
          rintro e w1 ⟨x, hx, rfl, rfl⟩
          go_wp2_with fail
          refine (HMod.out _ _ 5 (I64_wrap _) (by decide) (by decide)).mono ?_
          rintro e w1 ⟨m, hm, rfl, rfl⟩
          have hm8 : IntKind.u8.wrap (m : Int) = (m : Int) := by rw [IntKind.wrap_u8]; omega
          have hst : (tab 64 fun t => .int .u8 ((f t).toNat : Int)).setIfInBounds j (.int .u8 (m : Int)) = tab 64 fun t => .int .u8 (((if t = j then UInt8.ofNat m else f t) : UInt8).toNat : Int) := tab_set fun i hi => by
            by_cases e : i = j
            · rw [if_pos e, if_pos e, UInt8.toNat_ofNat', Nat.mod_eq_of_lt (by omega)]
            · rw [if_neg e, if_neg e]
          have hq2 := Lib.heap_setCell_same (i := j) hq (.int .u8 (m : Int))
          rw [hst] at hq2
          have hHq := Lib.hid hq2
          clear hst hq2 hx
          go_wp2
          exact ⟨⟨j + 1, _, rfl, hjt, hHq.out, below_set hbq (Nat.le_refl _)⟩, by simp [intOf]; omega⟩
        · have hjt' : decide ((j : Int) < 64) = false := by simp; omega
          have hA : ArrIs wr Wm.heap.size 5 ((List.range 64).map f) := by unfold ArrIs; rw [← tab_bytes]; exact hq
          have hcv := arr_string wr 64 hA
          rw [List.length_map, List.length_range] at hcv
          have l1 := heap_below j1 hbq
          have l2 := heap_below j2 hbq
          have c0' := cell2_0 l2
          have f0' := frozen2 l2 0
          have hty := htx.below hbq
          have hs3 := Nat.le_trans hs2 hbq.size
          clear hA c0 c1 f0
          go_wp2_with (at_builtin; refine app_str (n := (List.range 64).map f) rfl rfl (w.heap.size + 2) rfl hty (by simp [go_sem]) (by have := hBk.out; omega) hs3 ?_; intro g cap w2 ht2 hb2 hg2 hgr; have m1 := (hb2.block _ (by omega)).trans l1; have m2 := (hb2.block _ (by omega)).trans l2; have c2 := cell2_0 m2; have f2 := frozen2 m2 0)
          all_goals go_wp2
          have m3 := one_other (b := w.heap.size + 1) (j := 0) (u := .slice (some ⟨g, 0, none⟩) (bl.length + 1) cap) (by omega) m1
          have m4 := Lib.heap_setCell_same (i := 0) m2 (.slice (some ⟨g, 0, none⟩) (bl.length + 1) cap)
          have hz2 : w.heap.size + 2 ≤ w2.heap.size := Nat.le_trans hs3 (by first | exact hgr.size | exact hg2 | omega)
          refine ⟨⟨k + 1, _, bl ++ [(List.range 64).map f], rfl, hlt, by rw [List.length_append, hBk.out]; rfl, ?_, m3, m4, own_set ht2 (by omega), below_set (hwq.trans (hb2.mono (by omega))) (by omega), Nat.le_trans hz2 (grown_cell w2 _ _ _).size⟩, by simp [intOf]; omega⟩
          intro b hb
          rcases List.mem_append.1 hb with h | h
          · exact hB64.out b h
          · rw [List.mem_singleton.1 h]; simp
    · have hlt' : decide ((k : Int) < nn) = false := by simp; omega
      obtain rfl : k = nn := by omega
      have hb0 := htx.below (Below.refl _ _)
      have hlen : bl.length = k := hBk.out
      subst hlen
      go_wp2
      clear c0 c1 f0
      go_loopw [8] (fun i wr => ∃ (q : Nat) (vc : Value) (ws : List Wr), i = .int .i64 q ∧ 2 ≤ q ∧ q ≤ 8 ∧ ws.length + 2 ≤ q ∧ (∀ x ∈ ws, x.2 ≠ [] ∧ 0 ≤ x.1 ∧ x.1 + x.2.length ≤ ((64 * bl.length : Nat) : Int)) ∧ wr.heap[w.heap.size]? = some (.cells #[.slice none 0 0, .slice none 0 0] 25 (0, 0)) ∧ wr.heap[w.heap.size + 1]? = some (.cells #[.slice adb bl.length cpb, vc] 25 (0, 0)) ∧ wr.ownsRow (w.heap.size + 2) 9 1 (.slice adb bl.length cpb) bl.length (strVals bl) ∧ wr.ownsRow (w.heap.size + 2) 57 2 vc ws.length (wrVals ws) ∧ Below w.heap.size w wr ∧ w.heap.size + 2 ≤ wr.heap.size) (fun i _ => 8 - (intOf i).toNat)
      case atStart => exact ⟨2, _, [], rfl, by omega, by omega, by simp, by simp, j1, j2, htx, World.ownsRow_nil _ _ _ _, hbl, hs2⟩
      case round =>
        obtain ⟨q, vc, ws, rfl, hq2, hq8, hwl, hgood, i1, i2, otx, ows, hbw, hs3⟩ := hrel
        obtain ⟨Wv, rfl⟩ : ∃ W, W = wr := ⟨wr, rfl⟩
        obtain ⟨adc, cpc, rfl⟩ := own_slice ows
        have hGood := Lib.hid hgood
        clear hgood
        have e0 := cell2_0 i2
        have e1 := cell2_1 i2
        have g1 := frozen2 i2 1
        have fin : (decide ((q : Int) < l.length) = false ∨ decide ((q : Int) < l.length) = true ∧ decide ((q : Int) < 8) = false) ∨ (q < l.length ∧ q < 8) := by
          simp only [decide_eq_true_eq, decide_eq_false_iff_not]; omega
        rcases fin with h | ⟨h1, h2⟩
        · have y0 := cell2_0 i1
          have y1 := cell2_1 i1
          have z0 := frozen2 i1 0
          have z1 := frozen2 i1 1
          have hok : MadeOK (bl, ws) := ⟨⟨by show 1 ≤ bl.length; omega, by show bl.length ≤ 4096; omega, hB64.out, by show ws.length ≤ 1000; omega, fun x hx => by
            have := hGood.out x hx
            refine ⟨this.1, this.2.1, ?_⟩
            show _ ≤ ((64 * bl.length : Nat) : Int)
            exact this.2.2⟩, by show bl.length ≤ 4; omega, by show ws.length ≤ 6; omega⟩
          have t1 := own_set (b := w.heap.size) (j := 1) (u := .slice adc ws.length cpc) (own_set (b := w.heap.size) (j := 0) (u := .slice adb bl.length cpb) otx (by omega)) (by omega)
          have t2 := own_set (b := w.heap.size) (j := 1) (u := .slice adc ws.length cpc) (own_set (b := w.heap.size) (j := 0) (u := .slice adb bl.length cpb) ows (by omega)) (by omega)
          have hOk := Lib.hid hok
          clear hok
          rcases h with h | ⟨h, h2⟩
          · have hq' : ¬ q < l.length := by simpa using h
            have h3 : decide (q < l.length) = false := decide_eq_false hq'
            clear h
            go_wp2
            all_goals
              refine bodyPost_ret (results_cell1 rfl _ _ w.heap.size _ _ _ _ rfl (set_two i1) Try.underlying25 rfl (by kernel_rfl)) rfl ?_
              exact ⟨(bl, ws), _, _, _, _, rfl, ⟨_, _, rfl, Row.of_own t1, Row.of_own t2⟩, hOk.out, below_set (below_set hbw (Nat.le_refl _)) (Nat.le_refl _)⟩
          · have hq' : ¬ (q : Int) < 8 := by simpa using h2
            obtain rfl : q = 8 := by omega
            clear h2 hq'
            go_wp2
            all_goals
              refine bodyPost_ret (results_cell1 rfl _ _ w.heap.size _ _ _ _ rfl (set_two i1) Try.underlying25 rfl (by kernel_rfl)) rfl ?_
              exact ⟨(bl, ws), _, _, _, _, rfl, ⟨_, _, rfl, Row.of_own t1, Row.of_own t2⟩, hOk.out, below_set (below_set hbw (Nat.le_refl _)) (Nat.le_refl _)⟩
        · have h1' : decide ((q : Int) < l.length) = true := by simp; omega
          have h2' : decide ((q : Int) < 8) = true := by simp; omega
          have qv : (l.map fun n => Value.int .i64 n)[q]? = some (.int .i64 l[q]) := by rw [List.getElem?_map, List.getElem?_eq_getElem h1]; rfl
          obtain ⟨na, rfl, hna⟩ := (hRow.out.below hbw).cell qv
          clear qv
          have hX : I64 l[q] := I64_of (hWf.out _ (List.getElem_mem h1))
          generalize l[q] = x at hna hX
          go_wp2_with fail
          refine (HMod.out _ _ 1048576 hX (by decide) (by decide)).mono ?_
          rintro e w1 ⟨m, hm, rfl, rfl⟩
          obtain ⟨a, ha⟩ : ∃ a : Nat, (m : Int) % ((bl.length : Int) * 64) = (a : Int) := ⟨((m : Int) % ((bl.length : Int) * 64)).toNat, by have := Int.emod_nonneg (m : Int) (show (bl.length : Int) * 64 ≠ 0 by omega); omega⟩
          have ha2 : (a : Int) < (bl.length : Int) * 64 := by rw [← ha]; exact Int.emod_lt_of_pos _ (by omega)
          have hHa := Lib.hid ha
          clear ha
          obtain ⟨s0, hs0⟩ : ∃ s0 : Nat, (1 : Int) + (m : Int) / 256 % 70 = (s0 : Int) := ⟨1 + m / 256 % 70, by omega⟩
          have hs01 : 1 ≤ s0 ∧ s0 ≤ 70 := by omega
          obtain ⟨sz, hsz⟩ : ∃ sz : Nat, (if (bl.length : Int) * 64 - (a : Int) < (s0 : Int) then (bl.length : Int) * 64 - (a : Int) else (s0 : Int)) = (sz : Int) := ⟨if (bl.length : Int) * 64 - (a : Int) < (s0 : Int) then ((bl.length : Int) * 64 - (a : Int)).toNat else s0, by split <;> omega⟩
          have hsz1 : 1 ≤ sz ∧ sz ≤ 70 ∧ (a : Int) + (sz : Int) ≤ (bl.length : Int) * 64 := by
            split at hsz <;> omega
          have hz1 : ((bl.length : Int) * 64 == 0) = false := by rw [beq_eq_false_iff_ne]; omega
          have hz2 : ¬ (bl.length : Int) * 64 = 0 := by omega
          have hmk := makeU8 sz (by omega) Wv
          have ha := hHa.out
          clear hX
          go_wp2
          simp only [ha]
          obtain ⟨md, hmd⟩ : ∃ md : Nat, (m : Int) / 7 = (md : Int) := ⟨m / 7, by omega⟩
          have hmd2 : md ≤ 1048576 := by omega
          have v1 := Go.Joins.below_alloc1 Wv (.cells (tab sz fun _ => .int .u8 0) 5)
          have hHm := Lib.hid hmk
          have hHs := Lib.hid hsz
          have hHs0 := Lib.hid hs0
          clear hmk hsz hs0 ha hz1 hz2 hna
          go_loopw [13] (fun i wr => ∃ (j : Nat) (f : Nat → UInt8), i = .int .i64 j ∧ j ≤ sz ∧ wr.heap[Wv.heap.size]? = some (.cells (tab sz fun t => .int .u8 ((f t).toNat : Int)) 5 (0, 0)) ∧ Below Wv.heap.size Wv wr) (fun i _ => sz - (intOf i).toNat)
          case atStart => exact ⟨0, fun _ => 0, rfl, by omega, World.alloc_heap_new Wv _, v1⟩
          case round =>
            obtain ⟨j, f, rfl, hj, hq, hbq⟩ := hrel
            by_cases hjt : j < sz
            · have hjt' : decide ((j : Int) < sz) = true := by simp; omega
              have t0 := tab_cell hq hjt
              have t1 := tab_frozen hq j
              obtain ⟨b, hb⟩ : ∃ b : Nat, (97 : Int) + ((md : Int) + (j : Int)) % 26 = (b : Int) := ⟨97 + (md + j) % 26, by omega⟩
              have hb2 : b < 256 := by omega
              have hm8 : IntKind.u8.wrap (b : Int) = (b : Int) := by rw [IntKind.wrap_u8]; omega
              have hst : (tab sz fun t => .int .u8 ((f t).toNat : Int)).setIfInBounds j (.int .u8 (b : Int)) = tab sz fun t => .int .u8 (((if t = j then UInt8.ofNat b else f t) : UInt8).toNat : Int) := tab_set fun i hi => by
                by_cases e : i = j
                · rw [if_pos e, if_pos e, UInt8.toNat_ofNat', Nat.mod_eq_of_lt (by omega)]
                · rw [if_neg e, if_neg e]
              have hq2 := Lib.heap_setCell_same (i := j) hq (.int .u8 (b : Int))
              rw [hst] at hq2
              have hHq := Lib.hid hq2
              clear hst hq2
              go_wp2
              exact ⟨⟨j + 1, _, rfl, hjt, hHq.out, below_set hbq (Nat.le_refl _)⟩, by simp [intOf]; omega⟩
            · have hjt' : decide ((j : Int) < sz) = false := by simp; omega
              obtain rfl : j = sz := by omega
              have hA : ArrIs wr Wv.heap.size 5 ((List.range j).map f) := by unfold ArrIs; rw [← tab_bytes]; exact hq
              have hcv := arr_string wr j hA
              rw [List.length_map, List.length_range] at hcv
              have n1 := heap_below i1 hbq
              have n2 := heap_below i2 hbq
              have c0' := cell2_0 n2
              have c1' := cell2_1 n2
              have f1' := frozen2 n2 1
              have oty := own_below otx hbq
              have owy := own_below ows hbq
              have hs4 : w.heap.size + 2 ≤ wr.heap.size := Nat.le_trans hs3 hbq.size
              have hwb := hbw.trans (hbq.mono hbw.size)
              obtain ⟨X, hXd⟩ : ∃ X, X = (List.range j).map f := ⟨_, rfl⟩
              rw [← hXd] at hcv
              have hXl : X.length = j := by rw [hXd]; simp
              have hHX := Lib.hid hXl
              obtain ⟨i0, hi0, hz0, hz1, hz2⟩ := info_parts infoWr
              clear hA e0 e1 g1 hXd hXl
              go_wp2_with (at_builtin; refine wpList_append_own _ rfl _ _ 23 rfl (w.heap.size + 2) 57 i0 (.agg #[.int .i64 0, .string ⟨#[]⟩]) 2 24 Try.underlying23 hi0 hz0 hz1 hz2 rfl (by decide) _ _ _ rfl (World.ownsRow.alloc owy _) ⟨wr.heap.size, 0, none⟩ 1 1 [.int .i64 (a : Int), .string ⟨X.toArray⟩] (by simp [go_sem]) rfl (cell_two_new _ _ _ _) (by intro u hu; simp at hu; rcases hu with rfl | rfl <;> rfl) (by unfold maxLen; omega) (by omega) (Nat.le_trans hs4 (by simp)) ?_; intro v5 w5 o5 g5 _
                           have b5 := ((Below.refl (w.heap.size + 2) wr).alloc hs4 (.cells #[.int .i64 (a : Int), .string ⟨X.toArray⟩] 57)).grown g5 (Nat.le_trans hs4 (by simp)) (fun k hk => (World.ownsRow.lt owy k hk).1)
                           have ob5 := own_two (World.ownsRow.alloc oty (.cells #[.int .i64 (a : Int), .string ⟨X.toArray⟩] 57)) (World.ownsRow.alloc owy (.cells #[.int .i64 (a : Int), .string ⟨X.toArray⟩] 57)) g5 (by decide)
                           obtain ⟨ad5, cp5, rfl⟩ := own_slice o5
                           have l1 := (b5.block _ (by omega)).trans n1
                           have l2 := (b5.block _ (by omega)).trans n2
                           have z0' := cell2_0 l2
                           have z1' := cell2_1 l2
                           have y1' := frozen2 l2 1)
              all_goals go_wp2
              have p1 := one_other (b := w.heap.size + 1) (j := 1) (u := .slice ad5 (ws.length + 1) cp5) (by omega) l1
              have p2 := Lib.heap_setCell_same (i := 1) l2 (.slice ad5 (ws.length + 1) cp5)
              have r1 := own_set (b := w.heap.size + 1) (j := 1) (u := .slice ad5 (ws.length + 1) cp5) ob5 (by omega)
              have r2 := own_set (b := w.heap.size + 1) (j := 1) (u := .slice ad5 (ws.length + 1) cp5) o5 (by omega)
              rw [wrVals_snoc] at r2
              have r2' : (w5.setCell ⟨w.heap.size + 1, 1, none⟩ (.slice ad5 (ws.length + 1) cp5)).ownsRow (w.heap.size + 2) 57 2 (.slice ad5 (ws.length + 1) cp5) (ws ++ [((a : Int), X)]).length (wrVals (ws ++ [((a : Int), X)])) := by rw [List.length_append]; exact r2
              refine ⟨⟨q + 1, _, ws ++ [((a : Int), X)], rfl, by omega, by omega, by rw [List.length_append]; simp; omega, ?_, p1, p2, r1, r2', below_set (hwb.trans (b5.mono (by omega))) (by omega), Nat.le_trans (Nat.le_trans hs4 b5.size) (grown_cell w5 _ _ _).size⟩, by simp [intOf]; omega⟩
              intro x hx
              rcases List.mem_append.1 hx with h | h
              · exact hGood.out x h
              · rw [List.mem_singleton.1 h]
                have := hHX.out
                refine ⟨fun e => ?_, Int.natCast_nonneg _, ?_⟩
                · dsimp only at e; rw [e] at this; simp at this; omega
                · show (a : Int) + (X.length : Int) ≤ _
                  rw [this]; omega
end Go.Proofs.Ytiemlaofhmncdaa
