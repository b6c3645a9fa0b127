/- The walks of the iterator over the records of a region, chapter 12 (journal). -/
import Derived.Test.YthhghggaoljcbaaDoorJournalF
import Derived.Test.YthhghggaoljcbaaDoorRanges
import Derived.Handy
import Derived.RangeFuncCalls
import Derived.RangeFuncBox
import Derived.WalkKit
import Derived.OwnWalkIn
import Derived.TacticsInMore
import Derived.LoopNIn
import Derived.LoopIn
namespace Go.Proofs.YthhghggaoljcbaaDoor
open Go.RowKit Disk11 Journal12 Sum2

attribute [local go_sem] Oper.semAt_some

theorem walkJ_none {s : List UInt8} (n : Nat) (h : recJ s = none) : walkJ (n + 1) s = [] := by
  show (match recJ s with | none => [] | some x => x :: walkJ n (s.drop (x.length + 10))) = []
  rw [h]
theorem walkJ_some {s x : List UInt8} (n : Nat) (h : recJ s = some x) : walkJ (n + 1) s = x :: walkJ n (s.drop (x.length + 10)) := by
  show (match recJ s with | none => [] | some x => x :: walkJ n (s.drop (x.length + 10))) = _
  rw [h]
def recsAt : Nat → List (List UInt8) → List (Nat × List UInt8)
  | _, [] => []
  | a, x :: l => (a, x) :: recsAt (a + (x.length + 10)) l
theorem recsAt_snd : ∀ (a : Nat) (l : List (List UInt8)), (recsAt a l).map (·.2) = l
  | _, [] => rfl
  | a, x :: l => by unfold recsAt; rw [List.map_cons, recsAt_snd]
theorem recsAt_fst : ∀ (a : Nat) (l : List (List UInt8)), (recsAt a l).map (·.1) = offsJ a l
  | _, [] => rfl
  | a, x :: l => by unfold recsAt offsJ; rw [List.map_cons, recsAt_fst]
def recEnc (p : Nat × List UInt8) : Array Value := #[.int .i64 (p.1 : Int), .string ⟨p.2.toArray⟩]
def curAt (W : World) (c : Nat) : Nat := match W.cell? ⟨c, 1, none⟩ with | some (.int _ a) => a.toNat | _ => 0
theorem curAt_of {W : World} {c : Nat} {s : List UInt8} {a : Nat} {o : Bool} {t : Nat} (h : W.heap[c]? = some (.cells (curCells s a o) t (0, 0))) : curAt W c = a := by
  unfold curAt; rw [(cur_facts h).2.1]; simp
theorem cell1_of {W : World} {c t : Nat} {v : Value} (h : W.heap[c]? = some (.cells #[v] t (0, 0))) : W.cell? ⟨c, 0, none⟩ = some v := by simp [World.cell?, h]
/-- The box of the iterator's parameter. -/
def BoxAt (b c : Nat) (W : World) : Prop := W.heap[b]? = some (.cells #[.pointer (some ⟨c, 0, none⟩)] 83 (0, 0)) ∧ Tab W

set_option maxHeartbeats 400000 in
theorem records_any (n c : Nat) (w : World) :
    CallsIn Fence.wide n Tryd.prog 59 #[.pointer (some ⟨c, 0, none⟩)] w fun e w' => e = .returned (.func (.func 80) #[] #[.pointer (some ⟨w.heap.size, 0, none⟩)]) ∧ w' = w.alloc (.cells #[.pointer (some ⟨c, 0, none⟩)] 83) := by
  refine callsIn_of_wp Tryd.func59 rfl trivial ?_ rfl
  simp only [Tryd.ntmps59, List.size_toArray, List.length_cons, List.length_nil, Nat.reduceAdd, Nat.reduceSub, Array.replicate_succ, Array.replicate_zero, List.push_toArray, List.append_toArray, List.nil_append, List.cons_append]
  gi_wp2
  go_ret
  exact ⟨rfl, rfl⟩

set_option maxHeartbeats 4000000 in
set_option maxRecDepth 100000 in
theorem records1_any (n b c : Nat) (s : List UInt8) (hs : s.length ≤ 262144) (L : List (Nat × List UInt8)) (hL0 : L = recsAt 0 (recsJ s)) :
    SeqV Fence.wide n Tryd.prog 80 #[.pointer (some ⟨b, 0, none⟩)] recEnc c 85 (BoxAt b c) (curCells s 0 false) (curCells s (sizeJ (recsJ s)) true) L := by
  intro l J Jx W hJ hJx hJK hc hY h0
  have hLs : L.map (·.2) = recsJ s := by rw [hL0, recsAt_snd]
  refine callsIn_of_wp Tryd.func80 rfl trivial ?_ rfl
  simp only [Tryd.ntmps80, List.size_toArray, List.length_cons, List.length_nil, Nat.reduceAdd, Nat.reduceSub, Array.replicate_succ, Array.replicate_zero, List.push_toArray, List.append_toArray, List.nil_append, List.cons_append]
  gi_wp2
  gi_loopw [] (fun wr => ∃ (pre : List (Nat × List UInt8)) (a f : Nat), L = pre ++ recsAt a (walkJ (f + 1) (s.drop a)) ∧ a ≤ s.length ∧ s.length - a ≤ f ∧ a = sizeJ (pre.map (·.2)) ∧ wr.heap[c]? = some (.cells (curCells s a false) 85 (0, 0)) ∧ J pre wr)
    (fun wr => s.length - curAt wr c)
  case atStart => exact ⟨[], 0, s.length, hL0, Nat.zero_le _, Nat.le_refl _, rfl, hc, h0⟩
  case round =>
    clear hL0 hc h0
    obtain ⟨pre, a, f, hL, ha, hf, hap, hcr, hJs⟩ := hrel
    obtain ⟨hbx, htab⟩ := hJK _ _ hJs
    have HN := Lib.hid (next_any s a c false wr htab hcr ha hs)
    have hb0 := cell1_of hbx
    obtain ⟨c0, c1, c2, f0⟩ := cur_facts hcr
    have hbc : b ≠ c := fun e => by rw [e, hcr] at hbx; cases hbx
    have hbH := Lib.hid hbx
    have hcH := Lib.hid hcr
    have hLH := Lib.hid hL
    have hJH := Lib.hid hJs
    have hapH := Lib.hid hap
    clear hbx htab f0 hcr hL hJs hap
    gi_wp2_with fail
    refine ⟨trivial, fun h => (by cases h), ?_⟩
    refine (callsIn_wide.2 HN.out).mono ?_
    rintro e w2 ⟨hg2, hm⟩
    have hT2 : TurnedV c 85 wr w2 := ⟨hg2, by
      split at hm
      · exact ⟨_, hm.2⟩
      · exact ⟨_, hm.2⟩⟩
    have hJ2 := Lib.hid (hJ _ _ _ hJH.out hT2)
    have hbx2 := (hg2.block b (Array.getElem?_eq_some_iff.1 hbH.out).1 (fun e => hbc (by cases e; rfl))).trans hbH.out
    have hb2 := cell1_of hbx2
    clear HN hb0 c0 c1 c2
    cases hrec : recJ (s.drop a) with
    | none =>
      rw [hrec] at hm
      obtain ⟨rfl, hc2⟩ := hm
      have hw : walkJ (f + 1) (s.drop a) = [] := walkJ_none f hrec
      have hLp : L = pre := by rw [hLH.out, hw]; unfold recsAt; rw [List.append_nil]
      obtain ⟨c0, c1, c2, f0⟩ := cur_facts hc2
      have hcH2 := Lib.hid hc2
      clear hg2 hT2 hrec hw hbx2 hc2 f0
      gi_wp2
      refine ⟨fun f h => (by cases h), ?_⟩
      gi_wp2
      refine bodyPost_ret (results_none rfl _ _ _) rfl ?_
      refine ⟨⟨_, rfl⟩, .inl ⟨hLp ▸ hJ2.out, ?_⟩⟩
      rw [hcH2.out, ← hLs, hLp, ← hapH.out]
    | some x =>
      rw [hrec] at hm
      obtain ⟨rfl, hc2⟩ := hm
      have hw : walkJ (f + 1) (s.drop a) = x :: walkJ f ((s.drop a).drop (x.length + 10)) := walkJ_some f hrec
      obtain ⟨hsx, hx1, hx2⟩ := recJ_some hrec
      have hsl := congrArg List.length hsx
      rw [List.length_append, formJ_length, List.length_drop, List.length_drop, List.length_drop] at hsl
      have hL2 : L = pre ++ (a, x) :: recsAt (a + (x.length + 10)) (walkJ f (s.drop (a + (x.length + 10)))) := by
        rw [hLH.out, hw, List.drop_drop]; rfl
      obtain ⟨fn, tmps, assign, body, hy, hR⟩ := hY _ _ _ w2 hL2 hJ2.out
      unfold recEnc at hy
      dsimp only at hy
      obtain ⟨c0, c1, c2, f0⟩ := cur_facts hc2
      have hcH2 := Lib.hid hc2
      have hL2H := Lib.hid hL2
      have hslH := Lib.hid hsl
      clear hg2 hT2 hrec hw hbx2 hc2 f0 hsx hL2 hsl
      gi_wp2_with fail
      refine ⟨fun h => (by cases h), ?_⟩
      refine hR.mono ?_
      rintro e W3 (⟨rfl, hJ3, hc3⟩ | ⟨rfl, hJx3⟩)
      · gi_wp2
        go_roundw
        case rel =>
          have hsl := hslH.out
          match f, hf, hL2H.out with
          | 0, hf, _ => exact absurd hf (by omega)
          | f + 1, hf, hL2 =>
            have hc4 := hc3.trans hcH2.out
            exact ⟨pre ++ [(a, x)], a + (x.length + 10), f, by rw [hL2, List.append_assoc]; rfl, by omega, by omega, by rw [List.map_append, sizeJ_append, ← hapH.out]; simp [sizeJ], hc4, hJ3⟩
        case measure =>
          have hsl := hslH.out
          have hc4 := hc3.trans hcH2.out
          rw [curAt_of hcH.out, curAt_of hc4]; omega
      · gi_wp2
        refine bodyPost_ret (results_none rfl _ _ _) rfl ?_
        exact ⟨⟨_, rfl⟩, .inr ⟨_, by rw [hL2H.out]; exact ⟨_, by rw [List.append_assoc]; rfl⟩, hJx3⟩⟩
end Go.Proofs.YthhghggaoljcbaaDoor
