/- The walks of the comparisons of texts and of numbers of the statements' kit. -/
import Derived.Test.YtcpahelmaejjeaaDoorKitR
namespace Go.Proofs.YtcpahelmaejjeaaDoor
open Go.RowKit

theorem take_next {α : Type} {a b : List α} {k : Nat} (h : a.take k = b.take k) (h1 : k < a.length) (h2 : k < b.length) (e : a[k] = b[k]) : a.take (k + 1) = b.take (k + 1) := by
  rw [List.take_succ_eq_append_getElem h1, List.take_succ_eq_append_getElem h2, h, e]
theorem take_full {α : Type} {a b : List α} (h : a.take a.length = b.take a.length) (hl : a.length = b.length) : a = b := by
  rw [List.take_length, hl, List.take_length] at h; exact h

set_option maxHeartbeats 1000000 in
set_option maxRecDepth 100000 in
theorem SameTexts_any (a b : List (List UInt8)) (va vb : Value) (w : World) (ha : Row w 1 va a.length (strVals a)) (hb : Row w 1 vb b.length (strVals b)) (hla : a.length < 4398046511104) :
    Calls Tryd.prog 22 #[va, vb] w fun e w' => e = .returned (.bool (decide (a = b))) ∧ Below w.heap.size w w' := by
  obtain ⟨ad, c, rfl, _⟩ := ha.slice
  obtain ⟨bd, d, rfl, _⟩ := hb.slice
  by_cases hl : a.length = b.length
  · have hl' : ((a.length : Int) != b.length) = false := by simp [hl]
    have hHl := Lib.hid hl
    clear hl
    go_enter Tryd.func22, Tryd.ntmps22
    go_wp2
    go_loopw [5] (fun i wr => ∃ k : Nat, i = .int .i64 k ∧ k ≤ a.length ∧ Hid (a.take k = b.take k) ∧ Below w.heap.size w wr) (fun i _ => a.length - (intOf i).toNat)
    case atStart => exact ⟨0, rfl, Nat.zero_le _, Lib.hid rfl, Below.refl _ _⟩
    case round =>
      obtain ⟨k, rfl, hk, heq, hbl⟩ := hrel
      by_cases hlt : k < a.length
      · have hlt' : decide ((k : Int) < a.length) = true := by simp; omega
        have hlb : k < b.length := by rw [← hHl.out]; exact hlt
        obtain ⟨g1, rfl, k1⟩ := (ha.below hbl).cell (strVals_at a k hlt)
        obtain ⟨g2, rfl, k2⟩ := (hb.below hbl).cell (strVals_at b k hlb)
        obtain ⟨x, hx⟩ : ∃ x, x = a[k] := ⟨_, rfl⟩
        obtain ⟨y, hy⟩ : ∃ y, y = b[k] := ⟨_, rfl⟩
        rw [← hx] at k1
        rw [← hy] at k2
        have hHx := Lib.hid hx
        have hHy := Lib.hid hy
        clear hx hy
        by_cases hxy : x = y
        · have hxy' : (x == y) = true := by simp [hxy]
          have hE := Lib.hid hxy
          clear hxy
          have hHt := Lib.hid (take_next heq.out hlt hlb (by rw [← hHx.out, ← hHy.out, hE.out]))
          go_wp2
          go_region
          go_wp2
          exact ⟨⟨k + 1, rfl, hlt, hHt, hbl.drew⟩, by simp [intOf]; omega⟩
        · have hxy' : (x == y) = false := by simp [hxy]
          have hab : a ≠ b := fun e => hxy (by rw [hHx.out, hHy.out]; simp [e])
          have hF := Lib.hid hab
          clear hxy hab
          go_wp2
          go_region
          go_wp2
          go_ret
          exact ⟨by rw [decide_eq_false hF.out]; rfl, hbl.drew⟩
      · have hlt' : decide ((k : Int) < a.length) = false := by simp; omega
        obtain rfl : k = a.length := by omega
        have hF := Lib.hid (take_full heq.out hHl.out)
        go_wp2
        go_ret
        exact ⟨by rw [decide_eq_true hF.out]; rfl, hbl⟩
  · have hl' : ((a.length : Int) != b.length) = true := by simp; omega
    have hab : a ≠ b := fun e => hl (by rw [e])
    go_enter Tryd.func22, Tryd.ntmps22
    go_wp2
    go_ret
    exact ⟨by rw [decide_eq_false hab]; rfl, Below.refl _ _⟩

theorem SameTexts_same (a : List (List UInt8)) (va vb : Value) (w : World) (ha : Row w 1 va a.length (strVals a)) (hb : Row w 1 vb a.length (strVals a)) (hla : a.length < 4398046511104) :
    Calls Tryd.prog 22 #[va, vb] w fun e w' => e = .returned (.bool true) ∧ Below w.heap.size w w' :=
  (SameTexts_any a a va vb w ha hb hla).mono fun e w' ⟨h1, h2⟩ => ⟨by rw [h1]; simp, h2⟩
end Go.Proofs.YtcpahelmaejjeaaDoor
