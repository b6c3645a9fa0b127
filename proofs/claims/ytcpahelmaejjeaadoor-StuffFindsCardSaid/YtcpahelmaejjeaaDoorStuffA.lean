/- The walks of the program's own iterators of chapter 10 (stuff): the pieces of a text. -/
import Derived.Test.YtcpahelmaejjeaaDoorRangeC
import Derived.Test.YtcpahelmaejjeaaDoorStuffPlain
import Derived.Test.YtcpahelmaejjeaaDoorShelf
import Derived.Handy
import Derived.Lib.Hide
import Derived.RangeFuncCalls
import Derived.RangeFuncBox
import Derived.Shelf.Abstract
import Derived.Shelf.RegionOpen
import Derived.WalkKit
import Derived.OwnWalkIn
import Derived.TacticsInMore
import Derived.LoopNIn
import Derived.LoopIn
import Derived.Lib.IndexLaws
namespace Go.Proofs.YtcpahelmaejjeaaDoor
open Go.RowKit Go.Shelf Stuff10

attribute [local go_sem] Oper.semAt_some

theorem bytes_toList (s : ByteArray) : s.toList = s.data.toList := ByteArray.toList_eq s
theorem extract_take (s : ByteArray) (n : Nat) : s.extract 0 n = ⟨(s.data.toList.take n).toArray⟩ := by
  apply ByteArray.ext; rw [ByteArray.data_extract]; apply Array.toList_inj.1; simp
theorem extract_drop (s : ByteArray) (n : Nat) : (s.extract n s.size).data.toList = s.data.toList.drop n := by
  rw [ByteArray.data_extract]; simp
  exact List.take_of_length_le (by simp)
theorem length_size (s : ByteArray) : s.data.toList.length = s.size := by rw [Array.length_toList]; rfl
theorem whole (s : ByteArray) : (⟨s.data.toList.toArray⟩ : ByteArray) = s := rfl

theorem index_while : ∀ (m : List UInt8), Lib.indexByte m 0 = if (m.takeWhile (fun b => b != 0)).length < m.length then ((m.takeWhile (fun b => b != 0)).length : Int) else -1
  | [] => rfl
  | b :: m => by
    unfold Lib.indexByte
    by_cases hb : b = 0
    · subst hb; simp
    · have hb' : (b == 0) = false := by simpa using hb
      have hn : (b != 0) = true := by simpa using hb
      rw [index_while m, hb', List.takeWhile_cons_of_pos (p := fun b => b != 0) hn]
      simp only [List.length_cons]
      by_cases h : (m.takeWhile (fun b => b != 0)).length < m.length
      · rw [if_pos h]
        have : ¬ (((m.takeWhile (fun b => b != 0)).length : Int) == -1) = true := by simp
        simp [this, h]
      · rw [if_neg h]
        have : ¬ ((m.takeWhile (fun b => b != 0)).length + 1 < m.length + 1) := by omega
        simp [this]
theorem index_run (l : List UInt8) : Lib.indexByte (l.take 254) 0 = if run l < (l.take 254).length then (run l : Int) else -1 := index_while _

def piece (x : List UInt8 × Bool) : Array Value := #[.string ⟨x.1.toArray⟩, .bool x.2]
def cellSize (W : World) (c : Nat) : Nat := match W.cell? ⟨c, 0, none⟩ with | some (.string r) => r.size | _ => 0
theorem cell_of {W : World} {c t : Nat} {v : Value} (h : W.heap[c]? = some (.cells #[v] t (0, 0))) : W.cell? ⟨c, 0, none⟩ = some v := by simp [World.cell?, h]
theorem frozen_of {W : World} {c t : Nat} {v : Value} (h : W.heap[c]? = some (.cells #[v] t (0, 0))) : W.frozen? ⟨c, 0, none⟩ = false := by simp [World.frozen?, h]
theorem cellSize_of {W : World} {c t : Nat} {r : ByteArray} (h : W.heap[c]? = some (.cells #[.string r] t (0, 0))) : cellSize W c = r.size := by unfold cellSize; rw [cell_of h]
theorem set_heap {W : World} {c t : Nat} {v : Value} (h : W.heap[c]? = some (.cells #[v] t (0, 0))) (u : Value) : (W.setCell ⟨c, 0, none⟩ u).heap[c]? = some (.cells #[u] t (0, 0)) := by
  have := Lib.heap_setCell_same (i := 0) h u
  simpa using this
theorem turned_set {W : World} {c t : Nat} {v : Value} (h : W.heap[c]? = some (.cells #[v] t (0, 0))) (u : Value) : Turned c t W (W.setCell ⟨c, 0, none⟩ u) :=
  ⟨grownBy_setCell' W c u, u, set_heap h u⟩

set_option maxHeartbeats 400000 in
theorem pieces_any (n : Nat) (s : ByteArray) (w : World) :
    CallsIn Fence.wide n Tryd.prog 31 #[.string s] w fun e w' => e = .returned (.func (.func 40) #[] #[.pointer (some ⟨w.heap.size, 0, none⟩)]) ∧ w' = w.alloc (.cells #[.string s] 9) := by
  refine callsIn_of_wp Tryd.func31 rfl trivial ?_ rfl
  simp only [Tryd.ntmps31, List.size_toArray, List.length_cons, List.length_nil, Nat.reduceAdd, Nat.reduceSub, Array.replicate_succ, Array.replicate_zero, List.push_toArray, List.append_toArray, List.nil_append, List.cons_append]
  gi_wp2
  go_ret
  exact ⟨rfl, rfl⟩

theorem pieceCall (n : Nat) (r : ByteArray) (m : Nat) (hm : m = 254 ∨ (m = r.size ∧ r.size ≤ 254)) (w : World) :
    CallsIn Fence.wide n Tryd.prog 39 #[.string (r.extract 0 m), .int .u8 0] w fun e w' => e = .returned (.int .i64 (Lib.indexByte (r.data.toList.take 254) 0)) ∧ w' = w := by
  have h := Tryd.strings_IndexByte (r.extract 0 m) 0 w
  rw [extract_take] at h ⊢
  have e : r.data.toList.take m = r.data.toList.take 254 := by
    rcases hm with rfl | ⟨rfl, hle⟩
    · rfl
    · rw [List.take_of_length_le (by rw [length_size]; exact Nat.le_refl _), List.take_of_length_le (by rw [length_size]; exact hle)]
  rw [e] at h ⊢
  exact callsIn_wide.2 h

set_option maxHeartbeats 2000000 in
set_option maxRecDepth 100000 in
theorem pieces1_any (n c : Nat) (s : ByteArray) (hs : s.size < 4294967281) (L : List (List UInt8 × Bool)) (hL0 : L = pcs (s.data.toList.length + 1) s.data.toList) :
    SeqCell Fence.wide n Tryd.prog 40 #[.pointer (some ⟨c, 0, none⟩)] piece c 9 (fun _ => True) (.string s) L := by
  intro l J Jx W hJ hJx _ hc hY h0
  refine callsIn_of_wp Tryd.func40 rfl trivial ?_ rfl
  simp only [Tryd.ntmps40, List.size_toArray, List.length_cons, List.length_nil, Nat.reduceAdd, Nat.reduceSub, Array.replicate_succ, Array.replicate_zero, List.push_toArray, List.append_toArray, List.nil_append, List.cons_append]
  gi_wp2
  gi_loopw [] (fun wr => ∃ (pre : List (List UInt8 × Bool)) (r : ByteArray) (f : Nat), L = pre ++ pcs (f + 1) r.data.toList ∧ r.size ≤ f ∧ r.size < 4294967281 ∧ wr.heap[c]? = some (.cells #[.string r] 9 (0, 0)) ∧ J pre wr)
    (fun wr => cellSize wr c)
  case atStart => exact ⟨[], s, _, hL0, by rw [length_size]; exact Nat.le_refl _, hs, hc, h0⟩
  case round =>
    clear hL0
    obtain ⟨pre, r, f, hL, hf, hr, hcr, hJs⟩ := hrel
    have hcell := cell_of hcr
    have hfro := frozen_of hcr
    obtain ⟨q, hq⟩ : ∃ q, q = r.data.toList := ⟨_, rfl⟩
    have hqs : q.length = r.size := by rw [hq, length_size]
    obtain ⟨m, hm⟩ : ∃ m : Nat, m = min r.size 254 := ⟨_, rfl⟩
    have hmi : min (r.size : Int) 254 = (m : Int) := by omega
    have hml : (q.take 254).length = m := by rw [List.length_take]; omega
    have hcall := pieceCall (n - 1) r m (by omega) wr
    rw [← hq] at hL hcall
    have HQ := Lib.hid hq; clear hq
    rcases run_cases q with ⟨h1, h2⟩ | h | ⟨h1, h2, h3⟩
    · -- THE LAST PIECE
      have h254 : ¬ 254 ≤ r.size := by omega
      obtain rfl : m = r.size := by omega
      rw [index_run, if_neg (by omega)] at hcall
      rw [pcs_last _ h1 h2] at hL
      obtain ⟨fn, tmps, assign, body, hy, hR⟩ := hY _ _ _ wr hL hJs
      unfold piece at hy
      dsimp only at hy
      rw [HQ.out, whole] at hy
      clear hm hml
      have hr254 : decide ((254 : Int) ≤ r.size) = false := by simp; omega
      have ew : r.extract 0 r.size = r := by simp
      rw [ew] at hcall
      gi_wp2_with (refine ⟨trivial, fun h => (by cases h), ?_⟩; gi_at_call 39; refine hcall.mono ?_; clear hcall; rintro e w' ⟨rfl, rfl⟩)
      refine ⟨fun h => (by cases h), ?_⟩
      refine hR.mono ?_
      rintro e W3 (⟨rfl, hJ3, hc3⟩ | ⟨rfl, hJx3⟩)
      · gi_wp2
        refine bodyPost_ret (results_none rfl _ _ _) rfl ?_
        exact ⟨⟨_, rfl⟩, .inl (hL ▸ hJ3)⟩
      · gi_wp2
        refine bodyPost_ret (results_none rfl _ _ _) rfl ?_
        exact ⟨⟨_, rfl⟩, .inr ⟨_, by rw [hL]; exact List.prefix_refl _, hJx3⟩⟩
    · -- A FULL PIECE
      have h254 : 254 ≤ r.size := by have := run_le' q; omega
      obtain rfl : m = 254 := by omega
      clear hmi
      have hmi : min (r.size : Int) 254 = 254 := by omega
      rw [index_run, if_neg (by omega)] at hcall
      rw [pcs_full _ h] at hL
      obtain ⟨fn, tmps, assign, body, hy, hR⟩ := hY _ _ _ wr hL hJs
      unfold piece at hy
      dsimp only at hy
      rw [HQ.out, ← extract_take] at hy
      clear hm hml
      gi_wp2_with (refine ⟨trivial, fun h => (by cases h), ?_⟩; gi_at_call 39; refine hcall.mono ?_; clear hcall; rintro e w' ⟨rfl, rfl⟩)
      refine ⟨fun h => (by cases h), ?_⟩
      refine hR.mono ?_
      rintro e W3 (⟨rfl, hJ3, hc3⟩ | ⟨rfl, hJx3⟩)
      · have hcr3 := hc3.trans hcr
        have hcell3 := cell_of hcr3
        have hfro3 := frozen_of hcr3
        gi_wp2
        go_roundw
        case rel =>
          have ht := turned_set hcr3 (.string (r.extract 254 r.size))
          match f, hf, hL with
          | 0, hf, _ => exact absurd hf (by omega)
          | f + 1, hf, hL =>
            exact ⟨_, _, f, by rw [hL, extract_drop, List.append_assoc, ← HQ.out]; rfl, by simp; omega, by simp; omega, set_heap hcr3 _, hJ _ _ _ hJ3 ht⟩
        case measure => rw [cellSize_of hcr, cellSize_of (set_heap hcr3 _)]; simp; omega
      · gi_wp2
        refine bodyPost_ret (results_none rfl _ _ _) rfl ?_
        exact ⟨⟨_, rfl⟩, .inr ⟨_, by rw [hL]; exact ⟨_, by rw [List.append_assoc]; rfl⟩, hJx3⟩⟩
    · -- A PIECE AHEAD OF A ZERO BYTE
      obtain ⟨k, hk⟩ : ∃ k, k = run q := ⟨_, rfl⟩
      rw [← hk] at h1 h2
      rw [index_run, ← hk, if_pos (by omega)] at hcall
      rw [pcs_zero _ (by omega) (by omega), ← hk] at hL
      obtain ⟨fn, tmps, assign, body, hy, hR⟩ := hY _ _ _ wr hL hJs
      unfold piece at hy
      dsimp only at hy
      rw [HQ.out, ← extract_take] at hy
      clear hm hml hk h3
      have hkr : k < r.size := by omega
      have hk0 : decide ((k : Int) < 0) = false := by simp
      gi_wp2_with (refine ⟨trivial, fun h => (by cases h), ?_⟩; gi_at_call 39; refine hcall.mono ?_; clear hcall; rintro e w' ⟨rfl, rfl⟩)
      refine ⟨fun h => (by cases h), ?_⟩
      refine hR.mono ?_
      rintro e W3 (⟨rfl, hJ3, hc3⟩ | ⟨rfl, hJx3⟩)
      · have hcr3 := hc3.trans hcr
        have hcell3 := cell_of hcr3
        have hfro3 := frozen_of hcr3
        gi_wp2
        go_roundw
        case rel =>
          have ht := turned_set hcr3 (.string (r.extract (k + 1) r.size))
          match f, hf, hL with
          | 0, hf, _ => exact absurd hf (by omega)
          | f + 1, hf, hL =>
            exact ⟨_, _, f, by rw [hL, extract_drop, List.append_assoc, ← HQ.out]; rfl, by simp; omega, by simp; omega, set_heap hcr3 _, hJ _ _ _ hJ3 ht⟩
        case measure => rw [cellSize_of hcr, cellSize_of (set_heap hcr3 _)]; simp; omega
      · gi_wp2
        refine bodyPost_ret (results_none rfl _ _ _) rfl ?_
        exact ⟨⟨_, rfl⟩, .inr ⟨_, by rw [hL]; exact ⟨_, by rw [List.append_assoc]; rfl⟩, hJx3⟩⟩
end Go.Proofs.YtcpahelmaejjeaaDoor
