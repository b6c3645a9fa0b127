/- The walks of Split, of the reference's Split, and of the comparison of rows of texts, chapter 10. -/
import Derived.Test.YtcpahelmaejjeaaDoorStuffE
import Derived.Test.YtcpahelmaejjeaaDoorStuffH
namespace Go.Proofs.YtcpahelmaejjeaaDoor
open Go.RowKit Go.Shelf Stuff10

attribute [local go_sem] Oper.semAt_some

set_option maxHeartbeats 1000000 in
set_option maxRecDepth 100000 in
theorem Split_any (m : Int) (s : ByteArray) (w : World) (hG : 1 < w.heap.size) (hm : MaxIs m w) :
    Calls Tryd.prog 20 #[.string s] w fun e w' => ∃ v, e = .returned (.tuple #[v, .int .i64 (splitR s.data.toList).1.1.2, .string ⟨(splitR s.data.toList).1.2.toArray⟩, .int .i64 (splitR s.data.toList).2]) ∧ Txt w' w.heap.size v (splitR s.data.toList).1.1.1 ∧ Below w.heap.size w w' := by
  unfold splitR
  rw [length_size]
  by_cases h : 20000 < s.size
  · rw [if_pos h]
    have h' : decide ((20000 : Int) < s.size) = true := by simp; omega
    go_enter Tryd.func20, Tryd.ntmps20
    go_wp2
    refine bodyPost_ret (results_tmp4 rfl _ _ _) rfl ⟨_, rfl, Txt.nil _ _, Below.refl _ _⟩
  · rw [if_neg h]
    have h' : decide ((20000 : Int) < s.size) = false := by simp; omega
    have hc := fun W => Lib.hid (split_any m s (by omega) W)
    obtain ⟨r, hr⟩ : ∃ r, r = splitS s.data.toList := ⟨_, rfl⟩
    rw [← hr] at hc ⊢
    clear hr
    go_enter Tryd.func20, Tryd.ntmps20
    go_wp2_with fail
    refine ((hc w).out hG hm).mono ?_
    rintro e w1 ⟨v, rfl, ht, hb⟩
    obtain ⟨ad, c, rfl⟩ := ht.slice
    go_wp2
    go_region
    go_wp2
    refine bodyPost_ret (results_tmp4 rfl _ _ _) rfl ⟨_, rfl, ?_, ?_⟩
    · exact ((ht.alloc _).drew).lower (by omega)
    · exact (hb.alloc hb.size _).drew

set_option maxHeartbeats 1000000 in
set_option maxRecDepth 100000 in
theorem Same_any (a b : List (List UInt8)) (va vb : Value) (B1 B2 : Nat) (w : World) (ha : Txt w B1 va a) (hb : Txt w B2 vb b) (hla : a.length < 4398046511104) :
    Calls Tryd.prog 22 #[va, vb] w fun e w' => e = .returned (.bool (decide (a = b))) ∧ Below w.heap.size w w' := by
  obtain ⟨ad, c, rfl⟩ := ha.slice
  obtain ⟨bd, d, rfl⟩ := hb.slice
  by_cases hl : a.length = b.length
  · have hl' : ((a.length : Int) != b.length) = false := by simp [hl]
    have hHl := Lib.hid hl
    clear hl
    go_enter Tryd.func22, Tryd.ntmps22
    go_wp2
    go_loopw [5] (fun i wr => ∃ k : Nat, i = .int .i64 k ∧ k ≤ a.length ∧ Hid (a.take k = b.take k) ∧ Below w.heap.size w wr) (fun i _ => a.length - (intOf i).toNat)
    case atStart => exact ⟨0, rfl, Nat.zero_le _, Lib.hid rfl, Below.refl _ _⟩
    case round =>
      obtain ⟨k, rfl, hk, heq, hbl⟩ := hrel
      by_cases hlt : k < a.length
      · have hlt' : decide ((k : Int) < a.length) = true := by simp; omega
        have hlb : k < b.length := by rw [← hHl.out]; exact hlt
        have ha2 := ha.below hbl
        have hb2 := hb.below hbl
        obtain ⟨g1, c1, e1, _⟩ : ∃ g cap, (Value.slice ad a.length c) = .slice (some ⟨g, 0, none⟩) a.length cap ∧ B1 ≤ g := by
          rcases ha.form with ⟨_, e⟩ | h
          · rw [e] at hlt; simp at hlt
          · exact h
        obtain ⟨g2, c2, e2, _⟩ : ∃ g cap, (Value.slice bd b.length d) = .slice (some ⟨g, 0, none⟩) b.length cap ∧ B2 ≤ g := by
          rcases hb.form with ⟨_, e⟩ | h
          · rw [e] at hlb; simp at hlb
          · exact h
        simp only [Value.slice.injEq, true_and] at e1 e2
        obtain ⟨rfl, rfl⟩ := e1
        obtain ⟨rfl, rfl⟩ := e2
        have k1 := ha2.cell k hlt
        have k2 := hb2.cell k hlb
        obtain ⟨x, hx⟩ : ∃ x, x = a[k] := ⟨_, rfl⟩
        obtain ⟨y, hy⟩ : ∃ y, y = b[k] := ⟨_, rfl⟩
        rw [← hx] at k1
        rw [← hy] at k2
        have hHx := Lib.hid hx
        have hHy := Lib.hid hy
        clear hx hy
        by_cases hxy : x = y
        · have hxy' : (x == y) = true := by simp [hxy]
          have hE := Lib.hid hxy
          clear hxy
          have htk : a.take (k + 1) = b.take (k + 1) := by
            rw [List.take_succ_eq_append_getElem hlt, List.take_succ_eq_append_getElem hlb, heq.out, ← hHx.out, ← hHy.out, hE.out]
          have hHt := Lib.hid htk
          clear htk
          go_wp2
          go_region
          go_wp2
          exact ⟨⟨k + 1, rfl, hlt, hHt, hbl.drew⟩, by simp [intOf]; omega⟩
        · have hxy' : (x == y) = false := by simp [hxy]
          have hab : a ≠ b := fun e => hxy (by rw [hHx.out, hHy.out]; simp [e])
          have hF := Lib.hid hab
          clear hxy hab
          go_wp2
          go_region
          go_wp2
          go_ret
          exact ⟨by rw [decide_eq_false hF.out]; rfl, hbl.drew⟩
      · have hlt' : decide ((k : Int) < a.length) = false := by simp; omega
        have hab : a = b := by
          have := heq.out
          rw [List.take_of_length_le (by omega), List.take_of_length_le (by rw [← hHl.out]; omega)] at this; exact this
        have hF := Lib.hid hab
        clear hab
        go_wp2
        go_ret
        exact ⟨by rw [decide_eq_true hF.out]; rfl, hbl⟩
  · have hl' : ((a.length : Int) != b.length) = true := by simp; omega
    have hab : a ≠ b := fun e => hl (by rw [e])
    go_enter Tryd.func22, Tryd.ntmps22
    go_wp2
    go_ret
    exact ⟨by rw [decide_eq_false hab]; rfl, Below.refl _ _⟩
end Go.Proofs.YtcpahelmaejjeaaDoor
