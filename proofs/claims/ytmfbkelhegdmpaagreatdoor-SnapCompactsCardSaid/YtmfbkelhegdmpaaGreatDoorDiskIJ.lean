/- Texts of small laws, one behind the other. -/
import Derived.Test.YtmfbkelhegdmpaaGreatDoorKitAll
import Derived.Laws.StructEq
/- The walks of the comparisons of texts, numbers and devices, and of the bound on a device, chapter 11 (disk). -/
namespace Go.Proofs.YtmfbkelhegdmpaaGreatDoor
open Go.RowKit Disk11

theorem take_next {α : Type} {a b : List α} {k : Nat} (h : a.take k = b.take k) (h1 : k < a.length) (h2 : k < b.length) (e : a[k] = b[k]) : a.take (k + 1) = b.take (k + 1) := by
  rw [List.take_succ_eq_append_getElem h1, List.take_succ_eq_append_getElem h2, h, e]
theorem take_full {α : Type} {a b : List α} (h : a.take a.length = b.take a.length) (hl : a.length = b.length) : a = b := by
  rw [List.take_length, hl, List.take_length] at h; exact h

set_option maxHeartbeats 1000000 in
set_option maxRecDepth 100000 in
theorem SameTexts_any (a b : List (List UInt8)) (va vb : Value) (w : World) (ha : Row w 1 va a.length (strVals a)) (hb : Row w 1 vb b.length (strVals b)) (hla : a.length < 4398046511104) :
    Calls Tryz.prog 20 #[va, vb] w fun e w' => e = .returned (.bool (decide (a = b))) ∧ Below w.heap.size w w' := by
  obtain ⟨ad, c, rfl, _⟩ := ha.slice
  obtain ⟨bd, d, rfl, _⟩ := hb.slice
  by_cases hl : a.length = b.length
  · have hl' : ((a.length : Int) != b.length) = false := by simp [hl]
    have hHl := Lib.hid hl
    clear hl
    go_enter Tryz.func20, Tryz.ntmps20
    go_wp2
    go_loopw [5] (fun i wr => ∃ k : Nat, i = .int .i64 k ∧ k ≤ a.length ∧ Hid (a.take k = b.take k) ∧ Below w.heap.size w wr) (fun i _ => a.length - (intOf i).toNat)
    case atStart => exact ⟨0, rfl, Nat.zero_le _, Lib.hid rfl, Below.refl _ _⟩
    case round =>
      obtain ⟨k, rfl, hk, heq, hbl⟩ := hrel
      by_cases hlt : k < a.length
      · have hlt' : decide ((k : Int) < a.length) = true := by simp; omega
        have hlb : k < b.length := by rw [← hHl.out]; exact hlt
        obtain ⟨g1, rfl, k1⟩ := (ha.below hbl).cell (strVals_at a k hlt)
        obtain ⟨g2, rfl, k2⟩ := (hb.below hbl).cell (strVals_at b k hlb)
        obtain ⟨x, hx⟩ : ∃ x, x = a[k] := ⟨_, rfl⟩
        obtain ⟨y, hy⟩ : ∃ y, y = b[k] := ⟨_, rfl⟩
        rw [← hx] at k1
        rw [← hy] at k2
        have hHx := Lib.hid hx
        have hHy := Lib.hid hy
        clear hx hy
        by_cases hxy : x = y
        · have hxy' : (x == y) = true := by simp [hxy]
          have hE := Lib.hid hxy
          clear hxy
          have hHt := Lib.hid (take_next heq.out hlt hlb (by rw [← hHx.out, ← hHy.out, hE.out]))
          go_wp2
          go_region
          go_wp2
          exact ⟨⟨k + 1, rfl, hlt, hHt, hbl.drew⟩, by simp [intOf]; omega⟩
        · have hxy' : (x == y) = false := by simp [hxy]
          have hab : a ≠ b := fun e => hxy (by rw [hHx.out, hHy.out]; simp [e])
          have hF := Lib.hid hab
          clear hxy hab
          go_wp2
          go_region
          go_wp2
          go_ret
          exact ⟨by rw [decide_eq_false hF.out]; rfl, hbl.drew⟩
      · have hlt' : decide ((k : Int) < a.length) = false := by simp; omega
        obtain rfl : k = a.length := by omega
        have hF := Lib.hid (take_full heq.out hHl.out)
        go_wp2
        go_ret
        exact ⟨by rw [decide_eq_true hF.out]; rfl, hbl⟩
  · have hl' : ((a.length : Int) != b.length) = true := by simp; omega
    have hab : a ≠ b := fun e => hl (by rw [e])
    go_enter Tryz.func20, Tryz.ntmps20
    go_wp2
    go_ret
    exact ⟨by rw [decide_eq_false hab]; rfl, Below.refl _ _⟩

/-- A device within these bounds. -/
def light (d : Dev) (bl wr : Nat) : Bool := decide (d.1.length ≤ bl) && (decide (d.2.length ≤ wr) && (d.1.all (fun b => decide (b.length ≤ 100)) && d.2.all (fun x => decide (x.2.length ≤ 5000))))
theorem light_blocks {d : Dev} {bl wr : Nat} (h : bl < d.1.length) : light d bl wr = false := by unfold light; rw [decide_eq_false (by omega)]; rfl
theorem light_writes {d : Dev} {bl wr : Nat} (h : wr < d.2.length) : light d bl wr = false := by unfold light; rw [decide_eq_false (p := d.2.length ≤ wr) (by omega)]; simp
theorem light_block {d : Dev} {bl wr k : Nat} (h : k < d.1.length) (hb : 100 < d.1[k].length) : light d bl wr = false := by
  cases hl : light d bl wr with
  | false => rfl
  | true =>
    unfold light at hl
    simp only [Bool.and_eq_true, List.all_eq_true] at hl
    have := hl.2.2.1 _ (List.getElem_mem h)
    simp at this; omega
theorem light_write {d : Dev} {bl wr k : Nat} (h : k < d.2.length) (hb : 5000 < d.2[k].2.length) : light d bl wr = false := by
  cases hl : light d bl wr with
  | false => rfl
  | true =>
    unfold light at hl
    simp only [Bool.and_eq_true, List.all_eq_true] at hl
    have := hl.2.2.2 _ (List.getElem_mem h)
    simp at this; omega
theorem light_iff (d : Dev) (bl wr : Nat) : light d bl wr = true ↔ d.1.length ≤ bl ∧ d.2.length ≤ wr ∧ (∀ k (h : k < d.1.length), d.1[k].length ≤ 100) ∧ (∀ k (h : k < d.2.length), d.2[k].2.length ≤ 5000) := by
  unfold light
  simp only [Bool.and_eq_true, List.all_eq_true, decide_eq_true_eq]
  refine and_congr_right fun _ => and_congr_right fun _ => and_congr ⟨fun h k hk => h _ (List.getElem_mem hk), fun h x hx => ?_⟩ ⟨fun h k hk => h _ (List.getElem_mem hk), fun h x hx => ?_⟩
  · obtain ⟨j, hj, rfl⟩ := List.getElem_of_mem hx; exact h j hj
  · obtain ⟨j, hj, rfl⟩ := List.getElem_of_mem hx; exact h j hj

set_option maxHeartbeats 2000000 in
set_option maxRecDepth 100000 in
theorem LightDisk_any (d : Dev) (v : Value) (bl wr : Nat) (w : World) (h : DiskIs w d v) (h1 : bl ≤ 4096) (h2 : wr ≤ 4096) :
    Calls Tryz.prog 16 #[v, .int .i64 bl, .int .i64 wr] w fun e w' => e = .returned (.bool (light d bl wr)) ∧ Below w.heap.size w w' := by
  obtain ⟨r, hr⟩ : ∃ r, r = light d bl wr := ⟨_, rfl⟩
  rw [← hr]
  obtain ⟨ab, cb, ac, cc, rfl, _, _, hbc, hcc⟩ := h.form
  clear h
  have hw0 := Go.Joins.below_alloc1 w (.cells #[.slice ab d.1.length cb, .slice ac d.2.length cc] 29)
  have hcell : (w.alloc (.cells #[.slice ab d.1.length cb, .slice ac d.2.length cc] 29)).heap[w.heap.size]? = some (.cells #[.slice ab d.1.length cb, .slice ac d.2.length cc] 29 (0, 0)) := World.alloc_heap_new w _
  by_cases hA : bl < d.1.length
  · have hA' : decide (bl < d.1.length) = true := decide_eq_true hA
    rw [light_blocks hA] at hr
    subst hr
    clear hA hbc hcc
    go_enter Tryz.func16, Tryz.ntmps16
    go_wp2
    go_ret
    exact ⟨rfl, hw0⟩
  · skip
    by_cases hB : wr < d.2.length
    · have hB' : decide (wr < d.2.length) = true := decide_eq_true hB
      have hA' : decide (bl < d.1.length) = false := decide_eq_false hA
      rw [light_writes hB] at hr
      subst hr
      clear hA hB hbc hcc
      go_enter Tryz.func16, Tryz.ntmps16
      go_wp2
      go_ret
      exact ⟨rfl, hw0⟩
    · have hA' : decide (bl < d.1.length) = false := decide_eq_false hA
      have hB' : decide (wr < d.2.length) = false := decide_eq_false hB
      have hHr := Lib.hid hr
      have hAl : d.1.length ≤ bl := by omega
      have hBl : d.2.length ≤ wr := by omega
      clear hA hB hr
      go_enter Tryz.func16, Tryz.ntmps16
      go_wp2
      generalize (w.alloc (.cells #[.slice ab d.1.length cb, .slice ac d.2.length cc] 29)) = W0 at *
      have e0 := cell2_0 hcell
      have e1 := cell2_1 hcell
      go_loopw [7] (fun i wr => ∃ k : Nat, i = .int .i64 k ∧ k ≤ d.1.length ∧ Hid (∀ j (hj : j < d.1.length), j < k → d.1[j].length ≤ 100) ∧ wr = W0) (fun i _ => d.1.length - (intOf i).toNat)
      case atStart => exact ⟨0, rfl, Nat.zero_le _, Lib.hid (fun j _ h => absurd h (Nat.not_lt_zero _)), rfl⟩
      case round =>
        obtain ⟨k, rfl, hk, hnb, hwr⟩ := hrel
        subst wr
        by_cases hlt : k < d.1.length
        · have hlt' : decide ((k : Int) < d.1.length) = true := by simp; omega
          obtain ⟨a, rfl, hcell2⟩ := hbc k hlt
          obtain ⟨b, hbk⟩ : ∃ b, b = d.1[k] := ⟨_, rfl⟩
          have hcw := cell_below hw0 hcell2
          rw [← hbk] at hcw
          by_cases hbad : b.length ≤ 100
          · have hbad' : decide ((100 : Int) < b.length) = false := by simp; omega
            have hHn : Hid (∀ j (hj : j < d.1.length), j < k + 1 → d.1[j].length ≤ 100) := Lib.hid (by
              intro j hj hjk
              rcases Nat.lt_or_ge j k with h | h
              · exact hnb.out j hj h
              · obtain rfl : j = k := by omega
                rw [← hbk]; exact hbad)
            clear hbk hbc hcc hcell2
            go_wp2
            exact ⟨⟨k + 1, rfl, hlt, hHn, by first | trivial | rfl⟩, by simp [intOf]; omega⟩
          · have hbad' : decide ((100 : Int) < b.length) = true := by simp; omega
            have hres : r = false := by rw [hHr.out, light_block hlt (by rw [← hbk]; omega)]
            clear hbk hbc hcc hcell2
            go_wp2
            go_ret
            exact ⟨by rw [hres]; rfl, hw0⟩
        · obtain rfl : k = d.1.length := by omega
          have hlt' : decide ((d.1.length : Int) < d.1.length) = false := by simp
          clear hbc
          go_wp2
          go_loopw [8] (fun i wz => ∃ k : Nat, i = .int .i64 k ∧ k ≤ d.2.length ∧ Hid (∀ j (hj : j < d.2.length), j < k → d.2[j].2.length ≤ 5000) ∧ wz = W0) (fun i _ => d.2.length - (intOf i).toNat)
          case atStart => exact ⟨0, rfl, Nat.zero_le _, Lib.hid (fun j _ h => absurd h (Nat.not_lt_zero _)), rfl⟩
          case round =>
            obtain ⟨k, rfl, hk, hnw, hwr⟩ := hrel
            subst hwr
            by_cases hkt : k < d.2.length
            · have hkt' : decide ((k : Int) < d.2.length) = true := by simp; omega
              obtain ⟨a, rfl, q0, q1⟩ := hcc k hkt
              obtain ⟨x, hx⟩ : ∃ x, x = d.2[k] := ⟨_, rfl⟩
              rw [← hx] at q1
              have q1' := cell_next (cell_below hw0 q1)
              clear hcc q0 q1
              obtain ⟨p, y⟩ := x
              dsimp only at q1'
              by_cases hbad : y.length ≤ 5000
              · have hbad' : decide ((5000 : Int) < y.length) = false := by simp; omega
                have hHn : Hid (∀ j (hj : j < d.2.length), j < k + 1 → d.2[j].2.length ≤ 5000) := Lib.hid (by
                  intro j hj hjk
                  rcases Nat.lt_or_ge j k with h | h
                  · exact hnw.out j hj h
                  · obtain rfl : j = k := by omega
                    rw [← hx]; exact hbad)
                clear hx
                go_wp2
                exact ⟨⟨k + 1, rfl, hkt, hHn, by first | trivial | rfl⟩, by simp [intOf]; omega⟩
              · have hbad' : decide ((5000 : Int) < y.length) = true := by simp; omega
                have hres : r = false := by rw [hHr.out, light_write hkt (by rw [← hx]; show 5000 < y.length; omega)]
                clear hx
                go_wp2
                go_ret
                exact ⟨by rw [hres]; rfl, hw0⟩
            · obtain rfl : k = d.2.length := by omega
              have hkt' : decide ((d.2.length : Int) < d.2.length) = false := by simp
              have hres : r = true := by rw [hHr.out, light_iff]; exact ⟨hAl, hBl, fun j hj => hnb.out j hj hj, fun j hj => hnw.out j hj hj⟩
              clear hcc
              go_wp2
              go_ret
              exact ⟨by rw [hres]; rfl, hw0⟩
end Go.Proofs.YtmfbkelhegdmpaaGreatDoor
/- The walk of the comparison of devices, chapter 11 (disk). -/
namespace Go.Proofs.YtmfbkelhegdmpaaGreatDoor
open Go.RowKit Disk11

theorem neq_wr (x1 y1 : Int) (x2 y2 : List UInt8) (W : World) : (binOp .neq 49 (.agg #[.int .i64 x1, .string ⟨x2.toArray⟩]) (.agg #[.int .i64 y1, .string ⟨y2.toArray⟩])).run Tryz.prog W = .ok (.bool (!((x1 == y1) && (x2 == y2)))) W := by
  have t1 : Tryz.prog.stoodInHeld 49 = false := by kernel_rfl
  have t2 : Tryz.prog.underlying 49 = some (.struct (Tryz.prog.fieldsOf 49)) := by kernel_rfl
  rw [run_neq_struct, run_equalIn_agg _ _ _ _ _ t2 t1]
  simp [go_sem]
  by_cases h1 : x1 = y1 <;> by_cases h2 : x2 = y2 <;> simp [h1, h2]
set_option maxHeartbeats 2000000 in
set_option maxRecDepth 100000 in
theorem SameDisk_any (a b : Dev) (va vb : Value) (w : World) (ha : DiskIs w a va) (hb : DiskIs w b vb) (hla : a.1.length < 4398046511104) (hlc : a.2.length < 4398046511104) :
    Calls Tryz.prog 15 #[va, vb] w fun e w' => e = .returned (.bool (decide (a = b))) ∧ Below w.heap.size w w' := by
  obtain ⟨r, hr⟩ : ∃ r, r = decide (a = b) := ⟨_, rfl⟩
  rw [← hr]
  obtain ⟨vb1, vc1, rfl, hb1, hc1⟩ := ha
  obtain ⟨vb2, vc2, rfl, hb2, hc2⟩ := hb
  obtain ⟨ab, cb, rfl, _⟩ := hb1.slice
  obtain ⟨ac, cc, rfl, _⟩ := hc1.slice
  obtain ⟨ab2, cb2, rfl, _⟩ := hb2.slice
  obtain ⟨ac2, cc2, rfl, _⟩ := hc2.slice
  obtain ⟨j1, j2, _, hal⟩ := alloc2 w (.cells #[.slice ab a.1.length cb, .slice ac a.2.length cc] 29) (.cells #[.slice ab2 b.1.length cb2, .slice ac2 b.2.length cc2] 29)
  have HS := Lib.hid (fun v1 v2 W r1 r2 => SameTexts_any a.1 b.1 v1 v2 W r1 r2 hla)
  have hB1 := Lib.hid (hb1.below hal)
  have hB2 := Lib.hid (hb2.below hal)
  have hC1 := Lib.hid hc1
  have hC2 := Lib.hid hc2
  clear hb1 hb2 hc1 hc2
  obtain ⟨e, he⟩ : ∃ e, e = decide (a.1 = b.1) := ⟨_, rfl⟩
  rw [← he] at HS
  have hHe := Lib.hid he
  have hHr := Lib.hid hr
  clear he hr
  go_enter Tryz.func15, Tryz.ntmps15
  go_wp2_with fail
  refine (HS.out _ _ _ hB1.out hB2.out).mono ?_
  rintro _ w1 ⟨rfl, b1⟩
  have k1 := heap_below j1 b1
  have k2 := heap_below j2 b1
  have hw1 := hal.trans (b1.mono hal.size)
  have e0 := cell2_0 k1
  have e1 := cell2_1 k1
  have f0 := cell2_0 k2
  have f1 := cell2_1 k2
  cases e with
  | false =>
    have hres : r = false := by
      rw [hHr.out]; exact decide_eq_false fun h => (of_decide_eq_false hHe.out.symm) (by rw [h])
    go_wp2
    go_ret
    exact ⟨by rw [hres]; rfl, hw1⟩
  | true =>
    have hbe := Lib.hid (of_decide_eq_true hHe.out.symm)
    by_cases hl : a.2.length = b.2.length
    · have hl' : ((a.2.length : Int) != b.2.length) = false := by simp [hl]
      have hHl := Lib.hid hl
      clear hl
      go_wp2
      go_loopw [5] (fun i wr => ∃ k : Nat, i = .int .i64 k ∧ k ≤ a.2.length ∧ Hid (a.2.take k = b.2.take k) ∧ Below w1.heap.size w1 wr) (fun i _ => a.2.length - (intOf i).toNat)
      case atStart => exact ⟨0, rfl, Nat.zero_le _, Lib.hid rfl, Below.refl _ _⟩
      case round =>
        obtain ⟨k, rfl, hk, heq, hbl⟩ := hrel
        have hwk := hw1.trans (hbl.mono hw1.size)
        have q1 := heap_below k1 hbl
        have q2 := heap_below k2 hbl
        have x0 := cell2_0 q1
        have x1 := cell2_1 q1
        have y0 := cell2_0 q2
        have y1 := cell2_1 q2
        by_cases hlt : k < a.2.length
        · have hlt' : decide ((k : Int) < a.2.length) = true := by simp; omega
          have hlb : k < b.2.length := by rw [← hHl.out]; exact hlt
          obtain ⟨g1, rfl, r1⟩ := (hC1.out.below hwk).cell (wrVals_at a.2 k hlt).1
          obtain ⟨g1', e1', r1'⟩ := (hC1.out.below hwk).cell (wrVals_at a.2 k hlt).2
          cases e1'
          obtain ⟨g2, rfl, r2⟩ := (hC2.out.below hwk).cell (wrVals_at b.2 k hlb).1
          obtain ⟨g2', e2', r2'⟩ := (hC2.out.below hwk).cell (wrVals_at b.2 k hlb).2
          cases e2'
          obtain ⟨x, hx⟩ : ∃ x, x = a.2[k] := ⟨_, rfl⟩
          obtain ⟨y, hy⟩ : ∃ y, y = b.2[k] := ⟨_, rfl⟩
          rw [← hx] at r1 r1'
          rw [← hy] at r2 r2'
          have r1' := cell_next r1'
          have r2' := cell_next r2'
          have hHx := Lib.hid hx
          have hHy := Lib.hid hy
          clear hx hy
          obtain ⟨x1, x2⟩ := x
          obtain ⟨y1, y2⟩ := y
          dsimp only at r1 r1' r2 r2'
          have hq := neq_wr x1 y1 x2 y2
          cases hxy : ((x1 == y1) && (x2 == y2)) with
          | true =>
            rw [hxy] at hq
            have hE : (x1, x2) = (y1, y2) := by simp at hxy; rw [hxy.1, hxy.2]
            have hHt := Lib.hid (take_next heq.out hlt hlb (by rw [← hHx.out, ← hHy.out, hE]))
            clear hE hxy
            go_wp2
            go_region
            go_wp2
            exact ⟨⟨k + 1, rfl, hlt, hHt, hbl.drew⟩, by simp [intOf]; omega⟩
          | false =>
            rw [hxy] at hq
            have hres : r = false := by
              rw [hHr.out]
              refine decide_eq_false fun e => ?_
              have : (x1, x2) = (y1, y2) := by rw [hHx.out, hHy.out]; simp [e]
              simp only [Prod.mk.injEq] at this
              rw [this.1, this.2] at hxy; simp at hxy
            clear hxy
            go_wp2
            go_region
            go_wp2
            go_ret
            exact ⟨by rw [hres]; rfl, hwk.drew⟩
        · have hlt' : decide ((k : Int) < a.2.length) = false := by simp; omega
          obtain rfl : k = a.2.length := by omega
          have hF := Lib.hid (take_full heq.out hHl.out)
          have hres : r = true := by
            rw [hHr.out]; exact decide_eq_true (Prod.ext hbe.out hF.out)
          go_wp2
          go_ret
          exact ⟨by rw [hres]; rfl, hwk⟩
    · have hl' : ((a.2.length : Int) != b.2.length) = true := by simp; omega
      have hres : r = false := by
        rw [hHr.out]; exact decide_eq_false fun e => hl (by rw [e])
      go_wp2
      go_ret
      exact ⟨by rw [hres]; rfl, hw1⟩
end Go.Proofs.YtmfbkelhegdmpaaGreatDoor
