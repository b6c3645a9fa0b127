/- The walk of the comparison of devices, chapter 11 (disk). -/
import Derived.Test.YthhghggaoljcbaaDoorDiskI
import Derived.Laws.StructEq
namespace Go.Proofs.YthhghggaoljcbaaDoor
open Go.RowKit Disk11

theorem neq_wr (x1 y1 : Int) (x2 y2 : List UInt8) (W : World) : (binOp .neq 73 (.agg #[.int .i64 x1, .string ⟨x2.toArray⟩]) (.agg #[.int .i64 y1, .string ⟨y2.toArray⟩])).run Tryd.prog W = .ok (.bool (!((x1 == y1) && (x2 == y2)))) W := by
  have t1 : Tryd.prog.stoodInHeld 73 = false := by kernel_rfl
  have t2 : Tryd.prog.underlying 73 = some (.struct (Tryd.prog.fieldsOf 73)) := by kernel_rfl
  rw [run_neq_struct, run_equalIn_agg _ _ _ _ _ t2 t1]
  simp [go_sem]
  by_cases h1 : x1 = y1 <;> by_cases h2 : x2 = y2 <;> simp [h1, h2]
set_option maxHeartbeats 2000000 in
set_option maxRecDepth 100000 in
theorem SameDisk_any (a b : Dev) (va vb : Value) (w : World) (ha : DiskIs w a va) (hb : DiskIs w b vb) (hla : a.1.length < 4398046511104) (hlc : a.2.length < 4398046511104) :
    Calls Tryd.prog 17 #[va, vb] w fun e w' => e = .returned (.bool (decide (a = b))) ∧ Below w.heap.size w w' := by
  obtain ⟨r, hr⟩ : ∃ r, r = decide (a = b) := ⟨_, rfl⟩
  rw [← hr]
  obtain ⟨vb1, vc1, rfl, hb1, hc1⟩ := ha
  obtain ⟨vb2, vc2, rfl, hb2, hc2⟩ := hb
  obtain ⟨ab, cb, rfl, _⟩ := hb1.slice
  obtain ⟨ac, cc, rfl, _⟩ := hc1.slice
  obtain ⟨ab2, cb2, rfl, _⟩ := hb2.slice
  obtain ⟨ac2, cc2, rfl, _⟩ := hc2.slice
  obtain ⟨j1, j2, _, hal⟩ := alloc2 w (.cells #[.slice ab a.1.length cb, .slice ac a.2.length cc] 25) (.cells #[.slice ab2 b.1.length cb2, .slice ac2 b.2.length cc2] 25)
  have HS := Lib.hid (fun v1 v2 W r1 r2 => SameTexts_any a.1 b.1 v1 v2 W r1 r2 hla)
  have hB1 := Lib.hid (hb1.below hal)
  have hB2 := Lib.hid (hb2.below hal)
  have hC1 := Lib.hid hc1
  have hC2 := Lib.hid hc2
  clear hb1 hb2 hc1 hc2
  obtain ⟨e, he⟩ : ∃ e, e = decide (a.1 = b.1) := ⟨_, rfl⟩
  rw [← he] at HS
  have hHe := Lib.hid he
  have hHr := Lib.hid hr
  clear he hr
  go_enter Tryd.func17, Tryd.ntmps17
  go_wp2_with fail
  refine (HS.out _ _ _ hB1.out hB2.out).mono ?_
  rintro _ w1 ⟨rfl, b1⟩
  have k1 := heap_below j1 b1
  have k2 := heap_below j2 b1
  have hw1 := hal.trans (b1.mono hal.size)
  have e0 := cell2_0 k1
  have e1 := cell2_1 k1
  have f0 := cell2_0 k2
  have f1 := cell2_1 k2
  cases e with
  | false =>
    have hres : r = false := by
      rw [hHr.out]; exact decide_eq_false fun h => (of_decide_eq_false hHe.out.symm) (by rw [h])
    go_wp2
    go_ret
    exact ⟨by rw [hres]; rfl, hw1⟩
  | true =>
    have hbe := Lib.hid (of_decide_eq_true hHe.out.symm)
    by_cases hl : a.2.length = b.2.length
    · have hl' : ((a.2.length : Int) != b.2.length) = false := by simp [hl]
      have hHl := Lib.hid hl
      clear hl
      go_wp2
      go_loopw [5] (fun i wr => ∃ k : Nat, i = .int .i64 k ∧ k ≤ a.2.length ∧ Hid (a.2.take k = b.2.take k) ∧ Below w1.heap.size w1 wr) (fun i _ => a.2.length - (intOf i).toNat)
      case atStart => exact ⟨0, rfl, Nat.zero_le _, Lib.hid rfl, Below.refl _ _⟩
      case round =>
        obtain ⟨k, rfl, hk, heq, hbl⟩ := hrel
        have hwk := hw1.trans (hbl.mono hw1.size)
        have q1 := heap_below k1 hbl
        have q2 := heap_below k2 hbl
        have x0 := cell2_0 q1
        have x1 := cell2_1 q1
        have y0 := cell2_0 q2
        have y1 := cell2_1 q2
        by_cases hlt : k < a.2.length
        · have hlt' : decide ((k : Int) < a.2.length) = true := by simp; omega
          have hlb : k < b.2.length := by rw [← hHl.out]; exact hlt
          obtain ⟨g1, rfl, r1⟩ := (hC1.out.below hwk).cell (wrVals_at a.2 k hlt).1
          obtain ⟨g1', e1', r1'⟩ := (hC1.out.below hwk).cell (wrVals_at a.2 k hlt).2
          cases e1'
          obtain ⟨g2, rfl, r2⟩ := (hC2.out.below hwk).cell (wrVals_at b.2 k hlb).1
          obtain ⟨g2', e2', r2'⟩ := (hC2.out.below hwk).cell (wrVals_at b.2 k hlb).2
          cases e2'
          obtain ⟨x, hx⟩ : ∃ x, x = a.2[k] := ⟨_, rfl⟩
          obtain ⟨y, hy⟩ : ∃ y, y = b.2[k] := ⟨_, rfl⟩
          rw [← hx] at r1 r1'
          rw [← hy] at r2 r2'
          have r1' := cell_next r1'
          have r2' := cell_next r2'
          have hHx := Lib.hid hx
          have hHy := Lib.hid hy
          clear hx hy
          obtain ⟨x1, x2⟩ := x
          obtain ⟨y1, y2⟩ := y
          dsimp only at r1 r1' r2 r2'
          have hq := neq_wr x1 y1 x2 y2
          cases hxy : ((x1 == y1) && (x2 == y2)) with
          | true =>
            rw [hxy] at hq
            have hE : (x1, x2) = (y1, y2) := by simp at hxy; rw [hxy.1, hxy.2]
            have hHt := Lib.hid (take_next heq.out hlt hlb (by rw [← hHx.out, ← hHy.out, hE]))
            clear hE hxy
            go_wp2
            go_region
            go_wp2
            exact ⟨⟨k + 1, rfl, hlt, hHt, hbl.drew⟩, by simp [intOf]; omega⟩
          | false =>
            rw [hxy] at hq
            have hres : r = false := by
              rw [hHr.out]
              refine decide_eq_false fun e => ?_
              have : (x1, x2) = (y1, y2) := by rw [hHx.out, hHy.out]; simp [e]
              simp only [Prod.mk.injEq] at this
              rw [this.1, this.2] at hxy; simp at hxy
            clear hxy
            go_wp2
            go_region
            go_wp2
            go_ret
            exact ⟨by rw [hres]; rfl, hwk.drew⟩
        · have hlt' : decide ((k : Int) < a.2.length) = false := by simp; omega
          obtain rfl : k = a.2.length := by omega
          have hF := Lib.hid (take_full heq.out hHl.out)
          have hres : r = true := by
            rw [hHr.out]; exact decide_eq_true (Prod.ext hbe.out hF.out)
          go_wp2
          go_ret
          exact ⟨by rw [hres]; rfl, hwk⟩
    · have hl' : ((a.2.length : Int) != b.2.length) = true := by simp; omega
      have hres : r = false := by
        rw [hHr.out]; exact decide_eq_false fun e => hl (by rw [e])
      go_wp2
      go_ret
      exact ⟨by rw [hres]; rfl, hw1⟩
end Go.Proofs.YthhghggaoljcbaaDoor
