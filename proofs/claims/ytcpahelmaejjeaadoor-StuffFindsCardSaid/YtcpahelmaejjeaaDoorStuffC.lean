/- The walks of the program's own iterator over the parts of a stream. -/
import Derived.Test.YtcpahelmaejjeaaDoorStuffB
import Derived.Test.YtcpahelmaejjeaaDoorStreamPlain
namespace Go.Proofs.YtcpahelmaejjeaaDoor
open Go.RowKit Go.Shelf Stuff10

attribute [local go_sem] Oper.semAt_some

theorem size_mk' (l : List UInt8) : (⟨l.toArray⟩ : ByteArray).size = l.length := rfl
/-- What the library's search reads: internal/bytealg.MaxLen holds a number. -/
def MaxIs (m : Int) (W : World) : Prop := W.cell? ⟨1, 0, none⟩ = some (.int .i64 m)

set_option maxHeartbeats 400000 in
theorem parts_any (n : Nat) (s : ByteArray) (w : World) :
    CallsIn Fence.wide n Tryd.prog 43 #[.string s] w fun e w' => e = .returned (.func (.func 55) #[] #[.pointer (some ⟨w.heap.size, 0, none⟩)]) ∧ w' = w.alloc (.cells #[.string s] 9) := by
  refine callsIn_of_wp Tryd.func43 rfl trivial ?_ rfl
  simp only [Tryd.ntmps43, List.size_toArray, List.length_cons, List.length_nil, Nat.reduceAdd, Nat.reduceSub, Array.replicate_succ, Array.replicate_zero, List.push_toArray, List.append_toArray, List.nil_append, List.cons_append]
  gi_wp2
  go_ret
  exact ⟨rfl, rfl⟩

set_option maxHeartbeats 2000000 in
set_option maxRecDepth 100000 in
theorem parts1_any (n c : Nat) (m : Int) (s : ByteArray) (hs : s.size < 4294967281) (L : List (List UInt8 × Bool)) (hL0 : L = segs (s.data.toList.length + 1) s.data.toList) :
    SeqCell Fence.wide n Tryd.prog 55 #[.pointer (some ⟨c, 0, none⟩)] piece c 9 (MaxIs m) (.string s) L := by
  intro l J Jx W hJ hJx hK hc hY h0
  refine callsIn_of_wp Tryd.func55 rfl trivial ?_ rfl
  simp only [Tryd.ntmps55, List.size_toArray, List.length_cons, List.length_nil, Nat.reduceAdd, Nat.reduceSub, Array.replicate_succ, Array.replicate_zero, List.push_toArray, List.append_toArray, List.nil_append, List.cons_append]
  gi_wp2
  gi_loopw [] (fun wr => ∃ (pre : List (List UInt8 × Bool)) (r : ByteArray) (f : Nat), L = pre ++ segs (f + 1) r.data.toList ∧ r.size ≤ f ∧ r.size < 4294967281 ∧ wr.heap[c]? = some (.cells #[.string r] 9 (0, 0)) ∧ J pre wr)
    (fun wr => cellSize wr c)
  case atStart => exact ⟨[], s, _, hL0, by rw [length_size]; exact Nat.le_refl _, hs, hc, h0⟩
  case round =>
    clear hL0
    obtain ⟨pre, r, f, hL, hf, hr, hcr, hJs⟩ := hrel
    have hcell := cell_of hcr
    have hfro := frozen_of hcr
    have hcall := Tryd.strings_Cut r ⟨#[0]⟩ m wr hr (hK _ _ hJs)
    rw [show (⟨#[0]⟩ : ByteArray).data.toList = [0] from rfl, cut_zero] at hcall
    have hzl := zi_le r.data.toList
    rw [length_size] at hzl hcall
    rw [segs, length_size] at hL
    by_cases hz : zi r.data.toList < r.size
    · rw [if_pos hz] at hL hcall
      dsimp only at hcall
      obtain ⟨A, hA⟩ : ∃ A : ByteArray, A = ⟨(r.data.toList.take (zi r.data.toList)).toArray⟩ := ⟨_, rfl⟩
      obtain ⟨B, hB⟩ : ∃ B : ByteArray, B = ⟨(r.data.toList.drop (zi r.data.toList + 1)).toArray⟩ := ⟨_, rfl⟩
      have hBs : B.size < r.size := by rw [hB, size_mk', List.length_drop, length_size]; omega
      have hcall' := callsIn_wide (n := n - 1) |>.2 hcall
      rw [← hA, ← hB] at hcall'
      have HA := Lib.hid hA
      have HB := Lib.hid hB
      clear hcall hA hB
      gi_wp2_with (refine ⟨trivial, fun h => (by cases h), ?_⟩; gi_at_call 56; refine hcall'.mono ?_; clear hcall'; rintro e w' ⟨rfl, k, rfl⟩; refine Hid.out ?_)
      have hT : Turned c 9 wr (wr.drewN k) := ⟨⟨rfl, rfl, rfl, Nat.le_refl _, fun _ _ _ => rfl⟩, _, hcr⟩
      have hJ2 := hJ _ _ _ hJs hT
      obtain ⟨fn, tmps, assign, body, hy, hR⟩ := hY _ _ _ _ hL hJ2
      unfold piece at hy
      dsimp only at hy
      rw [← HA.out] at hy
      refine Lib.hid ?_
      gi_wp2
      refine ⟨fun h => (by cases h), ?_⟩
      refine hR.mono ?_
      rintro e W3 (⟨rfl, hJ3, hc3⟩ | ⟨rfl, hJx3⟩)
      · have hcr3 : W3.heap[c]? = some (.cells #[.string r] 9 (0, 0)) := hc3.trans hcr
        have hcell3 := cell_of hcr3
        have hfro3 := frozen_of hcr3
        gi_wp2
        have ht := turned_set hcr3 (.string B)
        refine ⟨?_, by rw [cellSize_of hcr, cellSize_of (set_heap hcr3 _)]; exact hBs⟩
        match f, hf, hL with
        | 0, hf, _ => exact absurd hf (by omega)
        | f + 1, hf, hL => exact ⟨_, _, f, by rw [hL, List.append_assoc, HB.out]; rfl, by omega, by omega, set_heap hcr3 _, hJ _ _ _ hJ3 ht⟩
      · gi_wp2
        refine bodyPost_ret (results_none rfl _ _ _) rfl ?_
        exact ⟨⟨_, rfl⟩, .inr ⟨_, by rw [hL]; exact ⟨_, by rw [List.append_assoc]; rfl⟩, hJx3⟩⟩
    · rw [if_neg hz] at hL hcall
      dsimp only at hcall
      rw [whole] at hcall
      have hcall' := callsIn_wide (n := n - 1) |>.2 hcall
      clear hcall
      gi_wp2_with (refine ⟨trivial, fun h => (by cases h), ?_⟩; gi_at_call 56; refine hcall'.mono ?_; clear hcall'; rintro e w' ⟨rfl, k, rfl⟩; refine Hid.out ?_)
      have hT : Turned c 9 wr (wr.drewN k) := ⟨⟨rfl, rfl, rfl, Nat.le_refl _, fun _ _ _ => rfl⟩, _, hcr⟩
      have hJ2 := hJ _ _ _ hJs hT
      obtain ⟨fn, tmps, assign, body, hy, hR⟩ := hY _ _ _ _ hL hJ2
      unfold piece at hy
      dsimp only at hy
      rw [whole] at hy
      refine Lib.hid ?_
      gi_wp2
      refine ⟨fun h => (by cases h), ?_⟩
      refine hR.mono ?_
      rintro e W3 (⟨rfl, hJ3, hc3⟩ | ⟨rfl, hJx3⟩)
      · gi_wp2
        refine bodyPost_ret (results_none rfl _ _ _) rfl ?_
        exact ⟨⟨_, rfl⟩, .inl (hL ▸ hJ3)⟩
      · gi_wp2
        refine bodyPost_ret (results_none rfl _ _ _) rfl ?_
        exact ⟨⟨_, rfl⟩, .inr ⟨_, by rw [hL]; exact List.prefix_refl _, hJx3⟩⟩
end Go.Proofs.YtcpahelmaejjeaaDoor
