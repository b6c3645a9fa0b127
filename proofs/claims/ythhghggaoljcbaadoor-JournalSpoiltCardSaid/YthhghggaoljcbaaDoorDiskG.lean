/- The walk of slices.Backward's iterator, chapter 11 (disk). -/
import Derived.Test.YthhghggaoljcbaaDoorRanges
import Derived.Test.YthhghggaoljcbaaDoorKitAll
import Derived.RangeFuncCalls
import Derived.RangeFuncBox
import Derived.Shelf.Abstract
import Derived.Shelf.RegionOpen
import Derived.WalkKit
import Derived.OwnWalkIn
import Derived.TacticsInMore
import Derived.LoopNIn
import Derived.LoopIn
namespace Go.Proofs.YthhghggaoljcbaaDoor
open Go.RowKit Go.Shelf Disk11

attribute [local go_sem] Oper.semAt_some

/-- What comes of a cache, from its k-th write down: the number, the write. -/
def restB (l : List Wr) (k : Nat) : List (Nat × Wr) := ((List.range k).map fun i => (i, (l[i]?).getD (0, []))).reverse
theorem restB_succ (l : List Wr) (k : Nat) (h : k < l.length) : restB l (k + 1) = (k, l[k]) :: restB l k := by
  unfold restB
  simp [List.range_succ, List.getElem?_eq_getElem h]
def backEnc (x : Nat × Wr) : Array Value := #[.int .i64 x.1, .agg #[.int .i64 x.2.1, .string ⟨x.2.2.toArray⟩]]
/-- What the iterator reads. -/
def RowK (l : List Wr) (ac : Option Addr) (cc : Nat) (W : World) : Prop := Row W 2 (.slice ac l.length cc) l.length (wrVals l)

set_option maxHeartbeats 400000 in
theorem backward_any (n : Nat) (ac : Option Addr) (nn cc : Nat) (w : World) :
    CallsIn Fence.wide n Tryd.prog 64 #[.slice ac nn cc] w fun e w' => e = .returned (.func (.func 90) #[] #[.pointer (some ⟨w.heap.size, 0, none⟩)]) ∧ w' = w.alloc (.cells #[.slice ac nn cc] 23) := by
  refine callsIn_of_wp Tryd.func64 rfl trivial ?_ rfl
  simp only [Tryd.ntmps64, List.size_toArray, List.length_cons, List.length_nil, Nat.reduceAdd, Nat.reduceSub, Array.replicate_succ, Array.replicate_zero, List.push_toArray, List.append_toArray, List.nil_append, List.cons_append]
  gi_wp2
  go_ret
  exact ⟨rfl, rfl⟩

set_option maxHeartbeats 2000000 in
set_option maxRecDepth 100000 in
theorem backward1_any (n c : Nat) (l : List Wr) (ac : Option Addr) (cc : Nat) (hl : l.length ≤ 1000) (L : List (Nat × Wr)) (hL0 : L = restB l l.length) :
    SeqCell Fence.wide n Tryd.prog 90 #[.pointer (some ⟨c, 0, none⟩)] backEnc c 23 (RowK l ac cc) (.slice ac l.length cc) L := by
  intro lp J Jx W hJ hJx hK hc hY h0
  refine callsIn_of_wp Tryd.func90 rfl trivial ?_ rfl
  simp only [Tryd.ntmps90, List.size_toArray, List.length_cons, List.length_nil, Nat.reduceAdd, Nat.reduceSub, Array.replicate_succ, Array.replicate_zero, List.push_toArray, List.append_toArray, List.nil_append, List.cons_append]
  have hc0 := cell1 hc
  gi_wp2
  gi_loopw [3] (fun i wr => ∃ (pre : List (Nat × Wr)) (k : Nat), L = pre ++ restB l k ∧ k ≤ l.length ∧ i = .int .i64 ((k : Int) - 1) ∧ wr.heap[c]? = some (.cells #[.slice ac l.length cc] 23 (0, 0)) ∧ J pre wr)
    (fun i _ => (intOf i + 1).toNat)
  case atStart => exact ⟨[], l.length, hL0, Nat.le_refl _, rfl, hc, h0⟩
  case round =>
    clear hL0
    obtain ⟨pre, k, hL, hk, rfl, hcr, hJs⟩ := hrel
    have hcell := cell1 hcr
    cases k with
    | zero =>
      have h0' : decide ((0 : Int) ≤ ((0 : Nat) : Int) - 1) = false := by decide
      have hLp : L = pre := by rw [hL]; simp [restB]
      gi_wp2
      exact bodyPost_end (results_none rfl _ _ _) rfl ⟨⟨_, rfl⟩, .inl (hLp ▸ hJs)⟩
    | succ k =>
      have hlt : k < l.length := hk
      rw [restB_succ l k hlt] at hL
      have h0' : decide ((0 : Int) ≤ ((k + 1 : Nat) : Int) - 1) = true := by rw [decide_eq_true_iff]; omega
      have e1 : (((k + 1 : Nat) : Int) - 1) = (k : Int) := by omega
      have hrow := hK _ _ hJs
      obtain ⟨a, hae, q0⟩ := Row.cell hrow (wrVals_at l k hlt).1
      obtain ⟨a', ha', q1⟩ := Row.cell hrow (wrVals_at l k hlt).2
      subst hae
      cases ha'
      have q1' := cell_next q1
      obtain ⟨fn, tmps, assign, body, hy, hR⟩ := hY _ _ _ wr hL hJs
      unfold backEnc at hy
      dsimp only at hy
      rw [e1] at *
      gi_wp2
      refine ⟨fun h => (by cases h), ?_⟩
      refine hR.mono ?_
      rintro e W3 (⟨rfl, hJ3, hc3⟩ | ⟨rfl, hJx3⟩)
      · have hcr3 : W3.heap[c]? = some (.cells #[.slice (some a) l.length cc] 23 (0, 0)) := hc3.trans hcr
        gi_wp2
        refine ⟨⟨pre ++ [(k, l[k])], k, by rw [hL, List.append_assoc]; rfl, by omega, rfl, hcr3, hJ3⟩, by simp [intOf]⟩
      · gi_wp2
        refine bodyPost_ret (results_none rfl _ _ _) rfl ?_
        exact ⟨⟨_, rfl⟩, .inr ⟨_, by rw [hL]; exact ⟨_, by rw [List.append_assoc]; rfl⟩, hJx3⟩⟩
end Go.Proofs.YthhghggaoljcbaaDoor
