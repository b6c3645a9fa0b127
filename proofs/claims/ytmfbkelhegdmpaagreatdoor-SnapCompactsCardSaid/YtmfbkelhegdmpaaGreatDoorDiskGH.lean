/- Texts of small laws, one behind the other. -/
import Derived.Test.YtmfbkelhegdmpaaGreatDoorRanges
import Derived.Test.YtmfbkelhegdmpaaGreatDoorKitAll
import Derived.RangeFuncCalls
import Derived.RangeFuncBox
import Derived.Shelf.Abstract
import Derived.Shelf.RegionOpen
import Derived.WalkKit
import Derived.OwnWalkIn
import Derived.TacticsInMore
import Derived.LoopNIn
import Derived.LoopIn
import Derived.Test.YtmfbkelhegdmpaaGreatDoorSumDL
import Derived.Sort.CutIn
import Derived.BigRegionIn
/- The walk of slices.Backward's iterator, chapter 11 (disk). -/
namespace Go.Proofs.YtmfbkelhegdmpaaGreatDoor
open Go.RowKit Go.Shelf Disk11

attribute [local go_sem] Oper.semAt_some

/-- What comes of a cache, from its k-th write down: the number, the write. -/
def restB (l : List Wr) (k : Nat) : List (Nat × Wr) := ((List.range k).map fun i => (i, (l[i]?).getD (0, []))).reverse
theorem restB_succ (l : List Wr) (k : Nat) (h : k < l.length) : restB l (k + 1) = (k, l[k]) :: restB l k := by
  unfold restB
  simp [List.range_succ, List.getElem?_eq_getElem h]
def backEnc (x : Nat × Wr) : Array Value := #[.int .i64 x.1, .agg #[.int .i64 x.2.1, .string ⟨x.2.2.toArray⟩]]
/-- What the iterator reads. -/
def RowK (l : List Wr) (ac : Option Addr) (cc : Nat) (W : World) : Prop := Row W 2 (.slice ac l.length cc) l.length (wrVals l)

set_option maxHeartbeats 400000 in
theorem backward_any (n : Nat) (ac : Option Addr) (nn cc : Nat) (w : World) :
    CallsIn Fence.wide n Tryz.prog 122 #[.slice ac nn cc] w fun e w' => e = .returned (.func (.func 146) #[] #[.pointer (some ⟨w.heap.size, 0, none⟩)]) ∧ w' = w.alloc (.cells #[.slice ac nn cc] 27) := by
  refine callsIn_of_wp Tryz.func122 rfl trivial ?_ rfl
  simp only [Tryz.ntmps122, List.size_toArray, List.length_cons, List.length_nil, Nat.reduceAdd, Nat.reduceSub, Array.replicate_succ, Array.replicate_zero, List.push_toArray, List.append_toArray, List.nil_append, List.cons_append]
  gi_wp2
  go_ret
  exact ⟨rfl, rfl⟩

set_option maxHeartbeats 2000000 in
set_option maxRecDepth 100000 in
theorem backward1_any (n c : Nat) (l : List Wr) (ac : Option Addr) (cc : Nat) (hl : l.length ≤ 1000) (L : List (Nat × Wr)) (hL0 : L = restB l l.length) :
    SeqCell Fence.wide n Tryz.prog 146 #[.pointer (some ⟨c, 0, none⟩)] backEnc c 27 (RowK l ac cc) (.slice ac l.length cc) L := by
  intro lp J Jx W hJ hJx hK hc hY h0
  refine callsIn_of_wp Tryz.func146 rfl trivial ?_ rfl
  simp only [Tryz.ntmps146, List.size_toArray, List.length_cons, List.length_nil, Nat.reduceAdd, Nat.reduceSub, Array.replicate_succ, Array.replicate_zero, List.push_toArray, List.append_toArray, List.nil_append, List.cons_append]
  have hc0 := cell1 hc
  gi_wp2
  gi_loopw [3] (fun i wr => ∃ (pre : List (Nat × Wr)) (k : Nat), L = pre ++ restB l k ∧ k ≤ l.length ∧ i = .int .i64 ((k : Int) - 1) ∧ wr.heap[c]? = some (.cells #[.slice ac l.length cc] 27 (0, 0)) ∧ J pre wr)
    (fun i _ => (intOf i + 1).toNat)
  case atStart => exact ⟨[], l.length, hL0, Nat.le_refl _, rfl, hc, h0⟩
  case round =>
    clear hL0
    obtain ⟨pre, k, hL, hk, rfl, hcr, hJs⟩ := hrel
    have hcell := cell1 hcr
    cases k with
    | zero =>
      have h0' : decide ((0 : Int) ≤ ((0 : Nat) : Int) - 1) = false := by decide
      have hLp : L = pre := by rw [hL]; simp [restB]
      gi_wp2
      exact bodyPost_end (results_none rfl _ _ _) rfl ⟨⟨_, rfl⟩, .inl (hLp ▸ hJs)⟩
    | succ k =>
      have hlt : k < l.length := hk
      rw [restB_succ l k hlt] at hL
      have h0' : decide ((0 : Int) ≤ ((k + 1 : Nat) : Int) - 1) = true := by rw [decide_eq_true_iff]; omega
      have e1 : (((k + 1 : Nat) : Int) - 1) = (k : Int) := by omega
      have hrow := hK _ _ hJs
      obtain ⟨a, hae, q0⟩ := Row.cell hrow (wrVals_at l k hlt).1
      obtain ⟨a', ha', q1⟩ := Row.cell hrow (wrVals_at l k hlt).2
      subst hae
      cases ha'
      have q1' := cell_next q1
      obtain ⟨fn, tmps, assign, body, hy, hR⟩ := hY _ _ _ wr hL hJs
      unfold backEnc at hy
      dsimp only at hy
      rw [e1] at *
      gi_wp2
      refine ⟨fun h => (by cases h), ?_⟩
      refine hR.mono ?_
      rintro e W3 (⟨rfl, hJ3, hc3⟩ | ⟨rfl, hJx3⟩)
      · have hcr3 : W3.heap[c]? = some (.cells #[.slice (some a) l.length cc] 27 (0, 0)) := hc3.trans hcr
        gi_wp2
        refine ⟨⟨pre ++ [(k, l[k])], k, by rw [hL, List.append_assoc]; rfl, by omega, rfl, hcr3, hJ3⟩, by simp [intOf]⟩
      · gi_wp2
        refine bodyPost_ret (results_none rfl _ _ _) rfl ?_
        exact ⟨⟨_, rfl⟩, .inr ⟨_, by rw [hL]; exact ⟨_, by rw [List.append_assoc]; rfl⟩, hJx3⟩⟩
end Go.Proofs.YtmfbkelhegdmpaaGreatDoor
/- The walk of Read, chapter 11 (disk): what the writes that were met so far say of each byte. -/
namespace Go.Proofs.YtmfbkelhegdmpaaGreatDoor
open Go.RowKit Go.Shelf Disk11

attribute [local go_sem] Oper.semAt_some

/-- What the writes that were met say of a byte. -/
def got (l : List (Nat × Wr)) (p : Nat) : Option UInt8 := l.findSome? fun x => Disk11.cover x.2 p
theorem got_snoc (l : List (Nat × Wr)) (x : Nat × Wr) (p : Nat) : got (l ++ [x]) p = (got l p).or (Disk11.cover x.2 p) := by
  unfold got
  rw [List.findSome?_append]
  congr 1
  rw [List.findSome?_cons]
  cases Disk11.cover x.2 p <;> rfl
theorem got_rest (l : List Wr) (p : Nat) : ∀ (k : Nat), k ≤ l.length → got (restB l k) p = Disk11.look (l.take k) p
  | 0, _ => by simp [restB, got, Disk11.look]
  | k + 1, h => by
    have ih := got_rest l p k (by omega)
    rw [restB_succ l k h, List.take_succ_eq_append_getElem h, Disk11.look_snoc, ← ih]
    unfold got
    rw [List.findSome?_cons]
    cases hc : Disk11.cover l[k] p <;> simp
theorem got_all (l : List Wr) (p : Nat) : got (restB l l.length) p = Disk11.look l p := by
  rw [got_rest l p _ (Nat.le_refl _), List.take_length]

/-- A row of cells by an index function. -/
def tab (n : Nat) (f : Nat → Value) : Array Value := ((List.range n).map f).toArray
theorem tab_get {n : Nat} {f : Nat → Value} {j : Nat} (h : j < n) : (tab n f)[j]? = some (f j) := by
  unfold tab; simp [h]
theorem tab_size (n : Nat) (f : Nat → Value) : (tab n f).size = n := by unfold tab; simp
theorem tab_set {n : Nat} {f g : Nat → Value} {j : Nat} {v : Value} (h : ∀ i, i < n → g i = if i = j then v else f i) : (tab n f).setIfInBounds j v = tab n g := by
  apply Array.ext_getElem?
  intro i
  by_cases hi : i < n
  · rw [tab_get hi, h i hi]
    by_cases e : i = j
    · subst e; rw [if_pos rfl, Array.getElem?_setIfInBounds_self_of_lt (by rw [tab_size]; exact hi)]
    · rw [if_neg e, Array.getElem?_setIfInBounds_ne (fun h => e h.symm), tab_get hi]
  · rw [Array.getElem?_eq_none (by simp [tab_size]; omega), Array.getElem?_eq_none (by rw [tab_size]; omega)]
theorem tab_congr {n : Nat} {f g : Nat → Value} (h : ∀ i, i < n → f i = g i) : tab n f = tab n g := by
  unfold tab
  congr 1
  exact List.map_congr_left fun i hi => h i (List.mem_range.1 hi)
theorem made_tab (z : Value) (n : Nat) (hz : z.cells = #[z]) : madeCells z.cells (n * 1) = tab n fun _ => z := by
  unfold madeCells tab
  rw [hz]
  apply Array.ext_getElem?
  intro i
  by_cases hi : i < n
  · simp [hi]; simp [Nat.mod_one]
  · rw [Array.getElem?_eq_none (by simp; omega), Array.getElem?_eq_none (by simp; omega)]
theorem tab_cell {W : World} {b n T : Nat} {f : Nat → Value} (h : W.heap[b]? = some (.cells (tab n f) T (0, 0))) {j : Nat} (hj : j < n) : W.cell? ⟨b, j, none⟩ = some (f j) := by
  simp [World.cell?, h, tab_get hj]
theorem tab_frozen {W : World} {b n T : Nat} {f : Nat → Value} (h : W.heap[b]? = some (.cells (tab n f) T (0, 0))) (j : Nat) : W.frozen? ⟨b, j, none⟩ = false := by
  simp [World.frozen?, h]
theorem tab_bytes (n : Nat) (f : Nat → UInt8) : tab n (fun j => .int .u8 ((f j).toNat : Int)) = (byteVals ((List.range n).map f)).toArray := by
  unfold tab byteVals
  simp
theorem infoBool : (Tryz.prog.info? 4).map (fun i => (i.zero, i.size, i.bytes)) = some (some (.bool false), 1, 1) := by kernel_rfl
theorem makeU8 (n : Nat) (h : n ≤ 262144) (w : World) : (Instr.makeSlice 52 (.int .i64 (n : Int)) (.int .i64 (n : Int))).run Tryz.prog w = .ok (.slice (some ⟨w.heap.size, 0, none⟩) n n) (w.alloc (.cells (tab n fun _ => .int .u8 0) 5)) := by
  obtain ⟨i0, hi, hz0, hz1, hz2⟩ := info_parts infoU8
  have h := run_make (P := Tryz.prog) w 52 5 i0 (.int .u8 0) Tryz.underlying52 hi hz0 .i64 .i64 n n (by omega) (by omega) (by rw [hz2]; omega) (by omega)
  rw [hz1] at h
  rw [h, Int.toNat_natCast, made_tab _ _ rfl]
theorem makeBool (n : Nat) (h : n ≤ 262144) (w : World) : (Instr.makeSlice 162 (.int .i64 (n : Int)) (.int .i64 (n : Int))).run Tryz.prog w = .ok (.slice (some ⟨w.heap.size, 0, none⟩) n n) (w.alloc (.cells (tab n fun _ => .bool false) 4)) := by
  obtain ⟨i0, hi, hz0, hz1, hz2⟩ := info_parts infoBool
  have h := run_make (P := Tryz.prog) w 162 4 i0 (.bool false) Tryz.underlying162 hi hz0 .i64 .i64 n n (by omega) (by omega) (by rw [hz2]; omega) (by omega)
  rw [hz1] at h
  rw [h, Int.toNat_natCast, made_tab _ _ rfl]

theorem alloc3 (w : World) (a b c : Obj) : (((w.alloc a).alloc b).alloc c).heap[w.heap.size]? = some a ∧ (((w.alloc a).alloc b).alloc c).heap[w.heap.size + 1]? = some b ∧
    (((w.alloc a).alloc b).alloc c).heap[w.heap.size + 2]? = some c ∧ (((w.alloc a).alloc b).alloc c).heap.size = w.heap.size + 3 ∧ Below w.heap.size w (((w.alloc a).alloc b).alloc c) := by
  obtain ⟨h1, h2, hs, hb⟩ := alloc2 w a b
  have h3 := World.alloc_heap_new ((w.alloc a).alloc b) c
  rw [hs] at h3
  refine ⟨?_, ?_, h3, by rw [World.size_alloc, hs], hb.alloc (by omega) _⟩
  · rw [Below.heap_alloc _ _ _ (by omega)]; exact h1
  · rw [Below.heap_alloc _ _ _ (by omega)]; exact h2
theorem alloc4 (w : World) (a b c d : Obj) : ((((w.alloc a).alloc b).alloc c).alloc d).drew.heap[w.heap.size]? = some a ∧ ((((w.alloc a).alloc b).alloc c).alloc d).drew.heap[w.heap.size + 1]? = some b ∧
    ((((w.alloc a).alloc b).alloc c).alloc d).drew.heap[w.heap.size + 2]? = some c ∧ ((((w.alloc a).alloc b).alloc c).alloc d).drew.heap[w.heap.size + 3]? = some d ∧ ((((w.alloc a).alloc b).alloc c).alloc d).drew.heap.size = w.heap.size + 4 ∧ Below w.heap.size w ((((w.alloc a).alloc b).alloc c).alloc d).drew := by
  obtain ⟨h1, h2, h3, hs, hb⟩ := alloc3 w a b c
  have h4 := World.alloc_heap_new (((w.alloc a).alloc b).alloc c) d
  rw [hs] at h4
  refine ⟨?_, ?_, ?_, h4, by show (World.alloc _ _).heap.size = _; rw [World.size_alloc, hs], (hb.alloc (by omega) _).drew⟩
  · show (World.alloc _ _).heap[_]? = _; rw [Below.heap_alloc _ _ _ (by omega)]; exact h1
  · show (World.alloc _ _).heap[_]? = _; rw [Below.heap_alloc _ _ _ (by omega)]; exact h2
  · show (World.alloc _ _).heap[_]? = _; rw [Below.heap_alloc _ _ _ (by omega)]; exact h3

/-- What region 6 leaves: two rows of n cells, two boxes that hold them, all new and apart. -/
structure Rooms (w : World) (n bo bk b10 b11 : Nat) (W : World) : Prop where
  out : W.heap[bo]? = some (.cells (tab n fun _ => .int .u8 0) 5 (0, 0))
  known : W.heap[bk]? = some (.cells (tab n fun _ => .bool false) 4 (0, 0))
  box10 : W.heap[b10]? = some (.cells #[.slice (some ⟨bo, 0, none⟩) n n] 52 (0, 0))
  box11 : W.heap[b11]? = some (.cells #[.slice (some ⟨bk, 0, none⟩) n n] 162 (0, 0))
  below : Below w.heap.size w W
  ge : w.heap.size ≤ bo ∧ w.heap.size ≤ bk ∧ w.heap.size ≤ b10 ∧ w.heap.size ≤ b11

theorem Rooms.lt {w W : World} {n bo bk b10 b11 : Nat} (h : Rooms w n bo bk b10 b11 W) : bo < W.heap.size ∧ bk < W.heap.size ∧ b10 < W.heap.size ∧ b11 < W.heap.size :=
  ⟨(Array.getElem?_eq_some_iff.1 h.out).1, (Array.getElem?_eq_some_iff.1 h.known).1, (Array.getElem?_eq_some_iff.1 h.box10).1, (Array.getElem?_eq_some_iff.1 h.box11).1⟩
theorem heap_ne {W : World} {a b : Nat} {o o' : Obj} (h : W.heap[a]? = some o) (h' : W.heap[b]? = some o') (hne : o ≠ o') : a ≠ b := by
  rintro rfl
  rw [h] at h'
  exact hne (Option.some.inj h')
theorem heap_keeps {W W' : World} {k j : Nat} {o : Obj} (h : W.heap[j]? = some o) (hg : W.grownBy W' (some k)) (hk : j ≠ k) : W'.heap[j]? = some o :=
  (hg.block _ (Array.getElem?_eq_some_iff.1 h).1 (fun e => hk (by cases e; rfl))).trans h

theorem grown_below {w w' : World} (h : Below w.heap.size w w') : w.grownBy w' none := ⟨h.os, h.tape, h.output, h.size, fun k hk _ => h.block k hk⟩
/-- What stands between two steps of Read's loops: w: the call's start; wc: behind the making of the rows. -/
structure ReadI (w wc : World) (nn bo bk : Nat) (f : Nat → Option UInt8) (W : World) : Prop where
  below : Below w.heap.size w W
  kept : ∀ k, k < wc.heap.size → k ≠ bo → k ≠ bk → W.heap[k]? = wc.heap[k]?
  out : W.heap[bo]? = some (.cells (tab nn fun j => .int .u8 (((f j).getD 0).toNat : Int)) 5 (0, 0))
  known : W.heap[bk]? = some (.cells (tab nn fun j => .bool (f j).isSome) 4 (0, 0))
  size : wc.heap.size ≤ W.heap.size
  ge : w.heap.size ≤ bo ∧ w.heap.size ≤ bk ∧ bo < wc.heap.size ∧ bk < wc.heap.size ∧ bo ≠ bk
theorem ReadI.grown {w wc W W' : World} {nn bo bk k : Nat} {f : Nat → Option UInt8} (h : ReadI w wc nn bo bk f W) (hg : W.grownBy W' (some k)) (hk : wc.heap.size ≤ k) (hw : w.heap.size ≤ wc.heap.size) : ReadI w wc nn bo bk f W' := by
  have hs := h.size
  obtain ⟨g1, g2, g3, g4, g5⟩ := h.ge
  exact ⟨h.below.grown hg (by omega) (fun j e => by cases e; omega), fun j hj h1 h2 => (hg.block _ (by omega) (fun e => by cases e; omega)).trans (h.kept j hj h1 h2), heap_keeps h.out hg (by omega), heap_keeps h.known hg (by omega), Nat.le_trans hs hg.size, h.ge⟩
theorem ReadI.fresh {w wc W W' : World} {nn bo bk : Nat} {f : Nat → Option UInt8} (h : ReadI w wc nn bo bk f W) (hg : W.grownBy W' none) : ReadI w wc nn bo bk f W' := by
  have hs := h.size
  obtain ⟨g1, g2, g3, g4, g5⟩ := h.ge
  exact ⟨h.below.grown hg (by omega) (fun j e => by cases e), fun j hj h1 h2 => (hg.block _ (by omega) (fun e => by cases e)).trans (h.kept j hj h1 h2), (hg.block _ (by omega) (fun e => by cases e)).trans h.out, (hg.block _ (by omega) (fun e => by cases e)).trans h.known, Nat.le_trans hs hg.size, h.ge⟩
theorem ReadI.congr {w wc W : World} {nn bo bk : Nat} {f g : Nat → Option UInt8} (h : ReadI w wc nn bo bk f W) (e : ∀ j, j < nn → g j = f j) : ReadI w wc nn bo bk g W :=
  ⟨h.below, h.kept, h.out.trans (congrArg (fun t => some (Obj.cells t 5 (0, 0))) (tab_congr fun i hi => by rw [e i hi])), h.known.trans (congrArg (fun t => some (Obj.cells t 4 (0, 0))) (tab_congr fun i hi => by rw [e i hi])), h.size, h.ge⟩
theorem ReadI.drew {w wc W : World} {nn bo bk : Nat} {f : Nat → Option UInt8} (h : ReadI w wc nn bo bk f W) : ReadI w wc nn bo bk f W.drew :=
  ⟨h.below.drew, h.kept, h.out, h.known, h.size, h.ge⟩
/-- One byte is laid and marked, in either order. -/
theorem ReadI.lay {w wc W : World} {nn bo bk j : Nat} {f g : Nat → Option UInt8} {y : UInt8} (h : ReadI w wc nn bo bk f W) (hg : ∀ i, i < nn → g i = if i = j then some y else f i) :
    ReadI w wc nn bo bk g ((W.setCell ⟨bo, j, none⟩ (.int .u8 (y.toNat : Int))).setCell ⟨bk, j, none⟩ (.bool true)) ∧ ReadI w wc nn bo bk g ((W.setCell ⟨bk, j, none⟩ (.bool true)).setCell ⟨bo, j, none⟩ (.int .u8 (y.toNat : Int))) := by
  obtain ⟨g1, g2, g3, g4, g5⟩ := h.ge
  have t1 : (tab nn fun j => .int .u8 (((f j).getD 0).toNat : Int)).setIfInBounds j (.int .u8 (y.toNat : Int)) = tab nn fun j => .int .u8 (((g j).getD 0).toNat : Int) := tab_set fun i hi => by
    rw [hg i hi]; by_cases e : i = j
    · rw [if_pos e, if_pos e]; rfl
    · rw [if_neg e, if_neg e]
  have t2 : (tab nn fun j => .bool (f j).isSome).setIfInBounds j (.bool true) = tab nn fun j => .bool (g j).isSome := tab_set fun i hi => by
    rw [hg i hi]; by_cases e : i = j
    · rw [if_pos e, if_pos e]; rfl
    · rw [if_neg e, if_neg e]
  have two : ∀ (a b : Nat) (u v : Value) (ca cb : Array Value) (ta tb : Nat), a ≠ b → W.heap[a]? = some (.cells ca ta (0, 0)) → W.heap[b]? = some (.cells cb tb (0, 0)) →
      ((W.setCell ⟨a, j, none⟩ u).setCell ⟨b, j, none⟩ v).heap[a]? = some (.cells (ca.setIfInBounds j u) ta (0, 0)) ∧ ((W.setCell ⟨a, j, none⟩ u).setCell ⟨b, j, none⟩ v).heap[b]? = some (.cells (cb.setIfInBounds j v) tb (0, 0)) := fun a b u v ca cb ta tb hab ha hb => by
    have e1 := Lib.heap_setCell_same (i := j) ha u
    have e2 := heap_keeps hb (grown_cell W a j u) (fun e => hab e.symm)
    exact ⟨heap_keeps e1 (grown_cell _ b j v) hab, Lib.heap_setCell_same (i := j) e2 v⟩
  have rest : ∀ (a b : Nat) (u v : Value), (a = bo ∧ b = bk ∨ a = bk ∧ b = bo) → Below w.heap.size w ((W.setCell ⟨a, j, none⟩ u).setCell ⟨b, j, none⟩ v) ∧ (∀ k, k < wc.heap.size → k ≠ bo → k ≠ bk → ((W.setCell ⟨a, j, none⟩ u).setCell ⟨b, j, none⟩ v).heap[k]? = wc.heap[k]?) ∧ wc.heap.size ≤ ((W.setCell ⟨a, j, none⟩ u).setCell ⟨b, j, none⟩ v).heap.size := fun a b u v hab => by
    have q1 := grown_cell W a j u
    have q2 := grown_cell (W.setCell ⟨a, j, none⟩ u) b j v
    have hs := h.size
    refine ⟨below_set (below_set h.below (by omega)) (by omega), fun k hk h1 h2 => ?_, Nat.le_trans hs (Nat.le_trans q1.size q2.size)⟩
    have := q1.size
    rw [q2.block k (by omega) (fun e => by cases e; omega), q1.block k (by omega) (fun e => by cases e; omega)]
    exact h.kept k hk h1 h2
  refine ⟨?_, ?_⟩
  · obtain ⟨o1, o2⟩ := two bo bk (.int .u8 (y.toNat : Int)) (.bool true) _ _ _ _ g5 h.out h.known
    obtain ⟨r1, r2, r3⟩ := rest bo bk (.int .u8 (y.toNat : Int)) (.bool true) (.inl ⟨rfl, rfl⟩)
    rw [t1] at o1; rw [t2] at o2
    exact ⟨r1, r2, o1, o2, r3, h.ge⟩
  · obtain ⟨o1, o2⟩ := two bk bo (.bool true) (.int .u8 (y.toNat : Int)) _ _ _ _ (fun e => g5 e.symm) h.known h.out
    obtain ⟨r1, r2, r3⟩ := rest bk bo (.bool true) (.int .u8 (y.toNat : Int)) (.inr ⟨rfl, rfl⟩)
    rw [t2] at o1; rw [t1] at o2
    exact ⟨r1, r2, o2, o1, r3, h.ge⟩
/-- The same while the bytes that no write has are filled in. -/
structure FillI (w wc : World) (nn bo bk : Nat) (o : Nat → UInt8) (kn : Nat → Bool) (W : World) : Prop where
  below : Below w.heap.size w W
  kept : ∀ k, k < wc.heap.size → k ≠ bo → k ≠ bk → W.heap[k]? = wc.heap[k]?
  out : W.heap[bo]? = some (.cells (tab nn fun j => .int .u8 ((o j).toNat : Int)) 5 (0, 0))
  known : W.heap[bk]? = some (.cells (tab nn fun j => .bool (kn j)) 4 (0, 0))
  size : wc.heap.size ≤ W.heap.size
theorem ReadI.fill {w wc W : World} {nn bo bk : Nat} {f : Nat → Option UInt8} (h : ReadI w wc nn bo bk f W) : FillI w wc nn bo bk (fun j => (f j).getD 0) (fun j => (f j).isSome) W := ⟨h.below, h.kept, h.out, h.known, h.size⟩
theorem FillI.congr {w wc W : World} {nn bo bk : Nat} {o o' : Nat → UInt8} {kn : Nat → Bool} (h : FillI w wc nn bo bk o kn W) (e : ∀ j, j < nn → o' j = o j) : FillI w wc nn bo bk o' kn W :=
  ⟨h.below, h.kept, h.out.trans (congrArg (fun t => some (Obj.cells t 5 (0, 0))) (tab_congr fun i hi => by rw [e i hi])), h.known, h.size⟩
theorem FillI.drew {w wc W : World} {nn bo bk : Nat} {o : Nat → UInt8} {kn : Nat → Bool} (h : FillI w wc nn bo bk o kn W) : FillI w wc nn bo bk o kn W.drew := ⟨h.below.drew, h.kept, h.out, h.known, h.size⟩
theorem FillI.lay {w wc W : World} {nn bo bk j : Nat} {o o' : Nat → UInt8} {kn : Nat → Bool} {y : UInt8} (h : FillI w wc nn bo bk o kn W) (hb : w.heap.size ≤ bo) (hne : bo ≠ bk) (hg : ∀ i, i < nn → o' i = if i = j then y else o i) :
    FillI w wc nn bo bk o' kn (W.setCell ⟨bo, j, none⟩ (.int .u8 (y.toNat : Int))) := by
  have g := grown_cell W bo j (.int .u8 (y.toNat : Int))
  have hs := h.size
  have t1 : (tab nn fun j => .int .u8 ((o j).toNat : Int)).setIfInBounds j (.int .u8 (y.toNat : Int)) = tab nn fun j => .int .u8 ((o' j).toNat : Int) := tab_set fun i hi => by
    rw [hg i hi]; by_cases e : i = j
    · rw [if_pos e, if_pos e]
    · rw [if_neg e, if_neg e]
  refine ⟨below_set h.below hb, fun k hk h1 h2 => (g.block k (by omega) (fun e => h1 (by cases e; rfl))).trans (h.kept k hk h1 h2), ?_, heap_keeps h.known g (fun e => hne e.symm), Nat.le_trans hs g.size⟩
  rw [Lib.heap_setCell_same (i := j) h.out, t1]
/-- The bytes that are read. -/
def fin (d : Dev) (pn j : Nat) : UInt8 := ((readAll d)[pn + j]?).getD 0
theorem fin_known {d : Dev} (h : Disk11.Good d) (pn j : Nat) (hk : (got (restB d.2 d.2.length) (pn + j)).isSome = true) : fin d pn j = (got (restB d.2 d.2.length) (pn + j)).getD 0 := by
  unfold fin
  rw [readAll_get h, ← got_all]
  cases hg : got (restB d.2 d.2.length) (pn + j) with
  | none => rw [hg] at hk; cases hk
  | some x => simp
theorem fin_block {d : Dev} (h : Disk11.Good d) (pn j : Nat) (hk : (got (restB d.2 d.2.length) (pn + j)).isSome = false) {k r : Nat} (hq : pn + j = 64 * k + r) (hr : r < 64) (hkl : k < d.1.length) : (d.1[k])[r]? = some (fin d pn j) := by
  unfold fin
  rw [readAll_get h, ← got_all]
  cases hg : got (restB d.2 d.2.length) (pn + j) with
  | some x => rw [hg] at hk; cases hk
  | none =>
    have hb := h.2.2.1 _ (List.getElem_mem hkl)
    rw [Option.none_or, hq, flatten_get h.2.2.1 k r hr, List.getElem?_eq_getElem hkl]
    simp only [Option.bind_some]
    rw [List.getElem?_eq_getElem (by omega)]; rfl
theorem fin_all {d : Dev} (h : Disk11.Good d) (pn nn : Nat) (hf : pn + nn ≤ 64 * d.1.length) : (List.range nn).map (fin d pn) = ((readAll d).drop pn).take nn := by
  have hl := readAll_length h
  apply List.ext_getElem
  · simp; omega
  · intro i h1 h2
    simp at h1
    simp only [List.getElem_map, List.getElem_range, List.getElem_take, List.getElem_drop]
    unfold fin
    rw [List.getElem?_eq_getElem (by omega)]; rfl
/-- Bytes below q by the newest write too, from q on by the elder ones. -/
def stq (pre : List (Nat × Wr)) (x : Nat × Wr) (pn q j : Nat) : Option UInt8 := if pn + j < q then got (pre ++ [x]) (pn + j) else got pre (pn + j)
theorem stq_start (pre : List (Nat × Wr)) (x : Nat × Wr) (pn q j : Nat) (h : (q : Int) ≤ max (pn : Int) x.2.1) : stq pre x pn q j = got pre (pn + j) := by
  unfold stq
  split
  · rename_i h1
    rw [got_snoc]
    unfold Disk11.cover
    rw [if_neg (by omega)]; simp
  · rfl
theorem stq_end (pre : List (Nat × Wr)) (x : Nat × Wr) (pn nn q j : Nat) (hj : j < nn) (h : min ((pn : Int) + nn) (x.2.1 + x.2.2.length) ≤ q) : stq pre x pn q j = got (pre ++ [x]) (pn + j) := by
  unfold stq
  split
  · rfl
  · rename_i h1
    rw [got_snoc]
    unfold Disk11.cover
    rw [if_neg (by omega)]; simp
theorem stq_known (pre : List (Nat × Wr)) (x : Nat × Wr) (pn q j : Nat) (h : (got pre q).isSome = true) : stq pre x pn (q + 1) j = stq pre x pn q j := by
  unfold stq
  by_cases h1 : pn + j < q
  · rw [if_pos (by omega), if_pos h1]
  · by_cases h2 : pn + j = q
    · rw [if_pos (by omega), if_neg h1, h2, got_snoc]
      cases hc : got pre q <;> simp_all
    · rw [if_neg (by omega), if_neg h1]
theorem stq_lay (pre : List (Nat × Wr)) (x : Nat × Wr) (pn q j t : Nat) (y : UInt8) (h : got pre q = none) (hq : q = pn + j) (ht : (q : Int) - x.2.1 = t) (hy : x.2.2[t]? = some y) (i : Nat) : stq pre x pn (q + 1) i = if i = j then some y else stq pre x pn q i := by
  unfold stq
  by_cases h1 : i = j
  · rw [if_pos h1, if_pos (by omega), show pn + i = q by omega, got_snoc, h]
    have hlt : t < x.2.2.length := by
      rcases Nat.lt_or_ge t x.2.2.length with k | k
      · exact k
      · rw [List.getElem?_eq_none k] at hy; cases hy
    unfold Disk11.cover
    rw [if_pos (by omega), ht]
    simpa using hy
  · rw [if_neg h1]
    by_cases h2 : pn + i < q
    · rw [if_pos (by omega), if_pos h2]
    · rw [if_neg (by omega), if_neg h2]
theorem rest_mem (l : List Wr) : ∀ (k : Nat), k ≤ l.length → ∀ x ∈ restB l k, x.2 ∈ l
  | 0, _, x, hx => by simp [restB] at hx
  | k + 1, h, x, hx => by
    rw [restB_succ l k h] at hx
    rcases List.mem_cons.1 hx with e | e
    · rw [e]; exact List.getElem_mem _
    · exact rest_mem l k (by omega) x e
theorem str_at (y : List UInt8) (t : Nat) (b : UInt8) (h : y[t]? = some b) (W : World) : (Instr.index 9 (.string ⟨y.toArray⟩) (.int .i64 (t : Int))).run Tryz.prog W = .ok (.int .u8 (b.toNat : Int)) W := by
  have hlt : t < y.length := by
    rcases Nat.lt_or_ge t y.length with k | k
    · exact k
    · rw [List.getElem?_eq_none k] at h; cases h
  have hs : (⟨y.toArray⟩ : ByteArray).size = y.length := rfl
  rw [run_index_string W _ _ _ _ Tryz.underlying9, dif_pos (by rw [hs]; omega)]
  have : (⟨y.toArray⟩ : ByteArray)[(t : Int).toNat]'(by rw [hs]; omega) = b := by
    rw [List.getElem?_eq_getElem hlt] at h
    have e : (⟨y.toArray⟩ : ByteArray)[(t : Int).toNat]'(by rw [hs]; omega) = y[t] := by
      simp only [Int.toNat_natCast]; rfl
    rw [e]; exact Option.some.inj h
  rw [this]

set_option maxHeartbeats 4000000 in
set_option maxRecDepth 100000 in
theorem Read_any (d : Dev) (v : Value) (p n : Int) (w : World) (h : DiskIs w d v) :
    Calls Tryz.prog 90 #[v, .int .i64 p, .int .i64 n] w fun e w' => e = .returned (.tuple #[.string ⟨(readD d p n).1.toArray⟩, .int .i64 (readD d p n).2]) ∧ Below w.heap.size w w' := by
  refine (callsIn_wide (n := 9)).1 ?_
  have HC := Lib.hid (fun W h => Check_any d v W h)
  have HI := Lib.hid (fun W h hl => inside_any d v p n W h hl)
  have hD := Lib.hid h
  have hgd : (chk d).1 = 0 → Disk11.Good d := fun h => (chk_good d).1 (chk_ok h)
  obtain ⟨r, hr⟩ : ∃ r, r = readD d p n := ⟨_, rfl⟩
  rw [← hr]
  unfold readD at hr
  obtain ⟨c, hc⟩ : ∃ c, c = chk d := ⟨_, rfl⟩
  rw [← hc] at hr hgd HC
  clear hc
  obtain ⟨c1, c2⟩ := c
  dsimp only at hr hgd HC
  obtain ⟨ab, cb, ac, cc, rfl, _, _, hbc, _⟩ := h.form
  have hrow := h
  clear h
  refine callsIn_of_wp_marks Tryz.func90 rfl trivial ?_ rfl
  simp only [Tryz.ntmps90, List.size_toArray, List.length_cons, List.length_nil, Nat.reduceAdd, Nat.reduceSub, Array.replicate_succ, Array.replicate_zero, List.push_toArray, List.append_toArray, List.nil_append, List.cons_append]
  obtain ⟨hk1, hk2, hk3, hs3, hal⟩ := alloc3 w (.cells #[.slice ab d.1.length cb, .slice ac d.2.length cc] 29) (.cells #[.int .i64 p] 3) (.cells #[.int .i64 n] 3)
  by_cases h0 : c1 = 0
  · subst h0
    have hg := hgd rfl
    clear hgd
    rw [if_neg (by simp)] at hr
    have hl := hg.2.1
    have hsz0 : ((Disk11.size d : Nat) : Int) = 64 * (d.1.length : Int) := by unfold Disk11.size; omega
    have hin := inside_iff (Disk11.size d) p n
    obtain ⟨i, hi⟩ : ∃ i, i = inside (Disk11.size d) p n := ⟨_, rfl⟩
    rw [← hi] at hr hin HI
    rw [hsz0] at hin
    clear hi hsz0
    gi_wp2_with (refine ⟨trivial, ?_⟩; gi_at_call 74; refine (callsIn_wide.2 (HC.out _ (hD.out.below hal))).mono ?_; clear HC; rintro e w1 ⟨rfl, b1⟩; have k1 := heap_below hk1 b1; have x0 := cell2_0 k1; have x1 := cell2_1 k1; have k2 := heap_below hk2 b1; have k3 := heap_below hk3 b1; have y2 := cell1 k2; have y3 := cell1 k3; have hb1 := hal.trans (b1.mono hal.size))
    clear hk1 hk2 hk3
    cases i with
    | false =>
      rw [if_pos rfl] at hr
      subst hr
      clear hin
      gi_wp2_with (refine ⟨trivial, ?_⟩; gi_at_call 80; refine (callsIn_wide.2 (HI.out _ (hD.out.below hb1) hl)).mono ?_; clear HI; rintro e w2 ⟨rfl, b2⟩)
      exact ⟨_, results_tmp2 rfl _ _ _, rfl, hb1.trans (b2.mono hb1.size)⟩
    | true =>
      rw [if_neg (by simp)] at hr
      obtain ⟨h1, h2, h3, h4⟩ := hin.1 rfl
      clear hin
      obtain ⟨pn, rfl⟩ : ∃ pn : Nat, p = (pn : Int) := ⟨p.toNat, by omega⟩
      obtain ⟨nn, rfl⟩ : ∃ nn : Nat, n = (nn : Int) := ⟨n.toNat, by omega⟩
      rw [Int.toNat_natCast, Int.toNat_natCast] at hr
      have hfit : pn + nn ≤ 64 * d.1.length := by omega
      have hHr := Lib.hid hr
      clear hr h1 h2 h3 h4
      gi_wp2_with (refine ⟨trivial, ?_⟩; gi_at_call 80; refine (callsIn_wide.2 (HI.out _ (hD.out.below hb1) hl)).mono ?_; clear HI; rintro e w2 ⟨rfl, b2⟩; have hb2 := hb1.trans (b2.mono hb1.size); have k1' := heap_below k1 b2; have k2' := heap_below k2 b2; have k3' := heap_below k3 b2)
      clear k1 k2 k3 x0 x1 y2 y3 b1 b2 hb1 hs3 hal w1
      have y2 := cell1 k2'
      have y3 := cell1 k3'
      rw [show w.heap.size + 2 = w.heap.size + 1 + 1 from rfl] at y3
      have hz2 : w.heap.size + 1 + 1 < w2.heap.size := (Array.getElem?_eq_some_iff.1 k3').1
      have hz1 : w.heap.size + 1 < w2.heap.size := by omega
      have hz0 : w.heap.size < w2.heap.size := by omega
      have hzl : w.heap.size ≤ w2.heap.size := by omega
      have hzp : w.heap.size < w2.heap.size + 1 := by omega
      gi_cut [10, 11] from 17 (fun u v W => ∃ bo bk b10 b11, u = .pointer (some ⟨b10, 0, none⟩) ∧ v = .pointer (some ⟨b11, 0, none⟩) ∧ Rooms w2 nn bo bk b10 b11 W)
      case first =>
        rename_i J K' hJ hK'
        have hm1 := fun W => makeU8 nn (by omega) W
        have hm2 := fun W => makeBool nn (by omega) W
        gi_region
        all_goals (refine hK' _ _ (Met.intro (hJ _ _ ?_)); (repeat apply Exists.intro); refine And.intro ?_ ?_; rotate_left; exact rfl)
        all_goals (obtain ⟨q1, q2, q3, q4, _, qb⟩ := alloc4 w2 _ _ _ _; exact ⟨_, _, _, _, rfl, rfl, ⟨(by first | exact q1 | exact q2 | exact q3 | exact q4), (by first | exact q1 | exact q2 | exact q3 | exact q4), (by first | exact q1 | exact q2 | exact q3 | exact q4), (by first | exact q1 | exact q2 | exact q3 | exact q4), qb, by omega⟩⟩)
      case rest =>
        obtain ⟨bo, bk, b10, b11, rfl, rfl, hrm⟩ := hcut
        have hb3 := hb2.trans (hrm.below.mono hb2.size)
        have K1 := heap_below k1' hrm.below
        have K2 := heap_below k2' hrm.below
        have K3 := heap_below k3' hrm.below
        have x1 := cell2_1 K1
        clear y2 y3 hz1 hz0 hzl hzp
        gi_wp2_with (refine ⟨trivial, ?_⟩; gi_at_call 122; refine (backward_any _ _ _ _ _).mono ?_; rintro e w4 ⟨rfl, rfl⟩)
        obtain ⟨l1, l2, l3, l4⟩ := hrm.lt
        obtain ⟨q1, q2, q3, q4⟩ := hrm.ge
        have hne := heap_ne hrm.out hrm.known (by simp)
        have n1 := heap_ne hrm.box10 hrm.out (by simp)
        have n2 := heap_ne hrm.box10 hrm.known (by simp)
        have n3 := heap_ne hrm.box11 hrm.out (by simp)
        have n4 := heap_ne hrm.box11 hrm.known (by simp)
        have hw2 : w.heap.size + 3 ≤ w2.heap.size := by omega
        have hwc : w2.heap.size ≤ wc.heap.size := hrm.below.size
        have hcap : (wc.alloc (.cells #[.slice ac d.2.length cc] 27)).heap[wc.heap.size]? = some (.cells #[.slice ac d.2.length cc] 27 (0, 0)) := World.alloc_heap_new wc _
        have hsz : (wc.alloc (.cells #[.slice ac d.2.length cc] 27)).heap.size = wc.heap.size + 1 := World.size_alloc ..
        have hrest := rest_mem d.2 d.2.length (Nat.le_refl _)
        obtain ⟨L, hL⟩ : ∃ L, L = restB d.2 d.2.length := ⟨_, rfl⟩
        rw [← hL] at hrest
        have hI0 : ReadI w wc nn bo bk (fun j => got [] (pn + j)) wc := ⟨hb3, fun _ _ _ _ => rfl, hrm.out, hrm.known, Nat.le_refl _, by omega, by omega, by omega, by omega, hne⟩
        refine range_cellA rfl (by omega) (gf := 146) (lb := #[.pointer (some ⟨wc.heap.size, 0, none⟩)]) rfl trivial (enters_of Tryz.func146 (by kernel_rfl) rfl)
          (backward1_any _ _ d.2 ac cc hg.2.2.2.1 L hL) hcap (fun _ => rfl) (fun pre W => ReadI w wc nn bo bk (fun j => got pre (pn + j)) W) (fun _ _ _ => False)
          ⟨fun s A A' h hT => h.grown hT.1 (Nat.le_refl _) (by omega), fun s A A' k h hg hk _ => h.grown hg (by omega) (by omega)⟩
          (fun _ W h => ?rowk) (fun j => ⟨fun _ _ _ h _ => h, fun _ _ _ _ h _ _ _ => h⟩)
          (fun W hb => (hI0.fresh ((grown_below (Go.Joins.below_alloc1 wc (.cells #[.slice ac d.2.length cc] 27))).trans (grown_below hb))))
          (fun pre x a₁ W => ReadI w wc nn bo bk (fun j => got pre (pn + j)) W ∧ ∃ b, wc.heap.size < b ∧ W.heap[b]? = some (.cells #[.int .i64 x.2.1, .string ⟨x.2.2.toArray⟩] 49 (0, 0)) ∧ a₁ = { tmps := #[.agg #[.slice ab d.1.length cb, .slice ac d.2.length cc], .int .i64 pn, .int .i64 nn, .pointer (some ⟨w.heap.size, 0, none⟩), .pointer (some ⟨w.heap.size + 1, 0, none⟩), .pointer (some ⟨w.heap.size + 1 + 1, 0, none⟩), .string ⟨#[]⟩, .int .i64 0, .int .i64 0, .int .i64 c2, .pointer (some ⟨b10, 0, none⟩), .pointer (some ⟨b11, 0, none⟩), undef, .pointer (some ⟨b, 0, none⟩), undef, undef, undef, u17, u18, u19, u20, u21, u22, u23, u24, u25, u26, u27, u28, u29, u30, u31, u32, u33, .pointer (some ⟨w.heap.size, 1, none⟩), .slice ac d.2.length cc, .func (.func 146) #[] #[.pointer (some ⟨wc.heap.size, 0, none⟩)], .int .i64 x.1, .agg #[.int .i64 x.2.1, .string ⟨x.2.2.toArray⟩], u39, u40, u41, u42, u43, u44, u45, u46, u47, u48, u49, u50, u51, u52, u53, u54, u55, u56, u57, u58, u59, u60, u61, u62, u63, u64, u65, u66, u67, u68, u69, u70, u71, u72, u73, u74, u75, u76, u77, u78, u79, u80, u81, u82, u83, u84, u85, u86, u87, u88, u89, u90, u91, u92, u93, u94, u95, u96, u97, u98, u99, u100, u101, u102, u103, u104, u105, u106, u107, u108], defers := [] }) ?hA ?assign ?body ?done ?stop
        case rowk =>
          obtain ⟨vb, vc, e, _, hr2⟩ := (hD.out.below h.below)
          cases e
          exact hr2
        case hA =>
          rintro pre x a₁ W W' k ⟨hR, b, hb, hbc, rfl⟩ hgr hk ⟨o, ho, hoc⟩
          exact ⟨hR.grown hgr (by omega) (by omega), b, hb, heap_keeps hbc hgr (by rintro rfl; rw [hbc] at ho; cases ho; cases hoc), rfl⟩
        case assign =>
          rintro l pre x post W K hx hR hsW hK
          unfold backEnc
          have hg1 : W.grownBy (W.alloc (.cells #[.int .i64 x.2.1, .string ⟨x.2.2.toArray⟩] 49)) none := grown_below (Go.Joins.below_alloc1 W _)
          gi_wp2
          exact hK _ _ ⟨hR.fresh hg1, W.heap.size, by omega, World.alloc_heap_new W _, rfl⟩ hg1
        case body =>
          rintro l pre x post a₁ W hx ⟨hR, b, hb, hbc, rfl⟩
          have hmem := hg.2.2.2.2 _ (hrest x (by rw [hx]; simp))
          clear hx hrest hL
          obtain ⟨kx, p, y⟩ := x
          dsimp only at hbc hmem
          obtain ⟨hy0, hp0, hpy⟩ := hmem
          unfold Disk11.size at hpy
          obtain ⟨an, rfl⟩ : ∃ an : Nat, p = (an : Int) := ⟨p.toNat, by omega⟩
          obtain ⟨q0, hq0⟩ : ∃ q0 : Nat, max (pn : Int) (an : Int) = (q0 : Int) := ⟨max pn an, by omega⟩
          obtain ⟨e0, he0⟩ : ∃ e0 : Nat, min ((pn : Int) + (nn : Int)) ((an : Int) + (y.length : Int)) = (e0 : Int) := ⟨min (pn + nn) (an + y.length), by omega⟩
          have hst := stq_start pre (kx, (an : Int), y) pn q0
          dsimp only at hst
          have hW1 : W.heap[w.heap.size + 1]? = some (.cells #[.int .i64 pn] 3 (0, 0)) := (hR.kept _ (by omega) (by omega) (by omega)).trans K2
          have z1 := cell1 hW1
          have z2 := cell2_0 hbc
          have z3 := cell2_1 hbc
          have hq1 : (if (pn : Int) < (an : Int) then (an : Int) else (pn : Int)) = (q0 : Int) := by rw [← hq0]; split <;> omega
          have hq2 : (if pn < an then (an : Int) else (pn : Int)) = (q0 : Int) := by rw [← hq0]; split <;> omega
          have he1 : (if (an : Int) + (y.length : Int) < (pn : Int) + (nn : Int) then (an : Int) + (y.length : Int) else (pn : Int) + (nn : Int)) = (e0 : Int) := by rw [← he0]; split <;> omega
          clear hy0
          gi_wp2
          clear hq1 hq2 z1 z2 z3
          gi_loopw [14] (fun i wr => ∃ q : Nat, i = .int .i64 q ∧ pn ≤ q ∧ an ≤ q ∧ ReadI w wc nn bo bk (stq pre (kx, (an : Int), y) pn q) wr ∧ (∀ k, wc.heap.size ≤ k → k < W.heap.size → wr.heap[k]? = W.heap[k]?) ∧ W.heap.size ≤ wr.heap.size) (fun i _ => e0 - (intOf i).toNat)
          case atStart => exact ⟨q0, rfl, by omega, by omega, hR.congr fun j hj => hst j (by omega), fun _ _ _ => rfl, Nat.le_refl _⟩
          case round =>
            obtain ⟨q, rfl, hqp, hqa, hR, hkp, hsz3⟩ := hrel
            have hbW := (Array.getElem?_eq_some_iff.1 hbc).1
            have hW1 : wr.heap[w.heap.size + 1]? = some (.cells #[.int .i64 pn] 3 (0, 0)) := (hR.kept _ (by omega) (by omega) (by omega)).trans K2
            have hW2 : wr.heap[w.heap.size + 2]? = some (.cells #[.int .i64 nn] 3 (0, 0)) := (hR.kept _ (by omega) (by omega) (by omega)).trans K3
            have hB10 := (hR.kept _ l3 n1 n2).trans hrm.box10
            have hB11 := (hR.kept _ l4 n3 n4).trans hrm.box11
            have hbw := (hkp b (by omega) hbW).trans hbc
            have z1 := cell1 hW1
            have z2 := cell2_0 hbw
            have z3 := cell2_1 hbw
            have z4 := cell1 hW2
            have z5 := cell1 hB10
            have z6 := cell1 hB11
            rw [show w.heap.size + 2 = w.heap.size + 1 + 1 from rfl] at z4
            by_cases hlt : q < e0
            · have hlt' : decide ((q : Int) < (e0 : Int)) = true := by simp; omega
              obtain ⟨j, hj⟩ : ∃ j : Nat, (q : Int) - (pn : Int) = (j : Int) := ⟨q - pn, by omega⟩
              obtain ⟨t, ht⟩ : ∃ t : Nat, (q : Int) - (an : Int) = (t : Int) := ⟨q - an, by omega⟩
              have hjn : j < nn := by omega
              have hty : t < y.length := by omega
              obtain ⟨yt, hyt⟩ : ∃ yt, y[t]? = some yt := ⟨_, List.getElem?_eq_getElem hty⟩
              have hix := str_at y t yt hyt
              have hqj : pn + j = q := by omega
              have hkc := tab_cell hR.known hjn
              have hkf := tab_frozen hR.known j
              have hof := tab_frozen hR.out j
              have hoc := tab_cell hR.out hjn
              have hgq : stq pre (kx, (an : Int), y) pn q j = got pre q := by unfold stq; rw [if_neg (by omega), hqj]
              rw [hgq] at hkc hoc
              cases hgo : got pre q with
              | some x0 =>
                rw [hgo] at hkc
                have hkn := stq_known pre (kx, (an : Int), y) pn q
                clear hix hof hoc hkf
                gi_wp2
                exact ⟨⟨q + 1, rfl, by omega, by omega, hR.congr fun j' hj' => hkn j' (by rw [hgo]; rfl), hkp, hsz3⟩, by simp [intOf]; omega⟩
              | none =>
                rw [hgo] at hkc hoc
                have hly := stq_lay pre (kx, (an : Int), y) pn q j t yt hgo hqj.symm ht hyt
                gi_wp2
                have hty2 : t < (⟨y.toArray⟩ : ByteArray).size := hty
                have hty3 : (t : Int) < ((⟨y.toArray⟩ : ByteArray).size : Int) := by have : (⟨y.toArray⟩ : ByteArray).size = y.length := rfl; omega
                have htw : IntKind.i64.wrap (t : Int) = (t : Int) := by rw [IntKind.wrap_i64]; omega
                have hjw : IntKind.i64.wrap (j : Int) = (j : Int) := by rw [IntKind.wrap_i64]; omega
                have hS0 : wr.drew.cell? ⟨b10, 0, none⟩ = some (.slice (some ⟨bo, 0, none⟩) nn nn) ∧ wr.drew.cell? ⟨b11, 0, none⟩ = some (.slice (some ⟨bk, 0, none⟩) nn nn) ∧ wr.drew.cell? ⟨w.heap.size + 1, 0, none⟩ = some (.int .i64 pn) ∧ wr.drew.cell? ⟨b, 0, none⟩ = some (.int .i64 an) ∧ wr.drew.cell? ⟨b, 1, none⟩ = some (.string ⟨y.toArray⟩) := ⟨z5, z6, z1, z2, z3⟩
                refine wpIn_region_held (fun V => V.cell? ⟨b10, 0, none⟩ = some (.slice (some ⟨bo, 0, none⟩) nn nn) ∧ V.cell? ⟨b11, 0, none⟩ = some (.slice (some ⟨bk, 0, none⟩) nn nn) ∧ V.cell? ⟨w.heap.size + 1, 0, none⟩ = some (.int .i64 pn) ∧ V.cell? ⟨b, 0, none⟩ = some (.int .i64 an) ∧ V.cell? ⟨b, 1, none⟩ = some (.string ⟨y.toArray⟩)) (by kernel_rfl) (by kernel_rfl) (fun _ _ h => h) ?_
                refine heldTake 0 (.slice (some ⟨bo, 0, none⟩) nn nn) rfl (by kernel_rfl) (by kernel_rfl) (by kernel_rfl) rfl (fun V hV => by obtain ⟨s1, s2, s3, s4, s5⟩ := hV; go_simp) hS0 ?_
                refine heldTake 1 (.int .i64 q) rfl (by kernel_rfl) (by kernel_rfl) (by kernel_rfl) rfl (fun V hV => by obtain ⟨s1, s2, s3, s4, s5⟩ := hV; go_simp) hS0 ?_
                refine heldTake 2 (.int .i64 pn) rfl (by kernel_rfl) (by kernel_rfl) (by kernel_rfl) rfl (fun V hV => by obtain ⟨s1, s2, s3, s4, s5⟩ := hV; go_simp) hS0 ?_
                refine heldTake 3 (.int .i64 j) rfl (by kernel_rfl) (by kernel_rfl) (by kernel_rfl) rfl (fun V hV => by obtain ⟨s1, s2, s3, s4, s5⟩ := hV; go_simp) hS0 ?_
                refine heldTake 4 (.slice (some ⟨bk, 0, none⟩) nn nn) rfl (by kernel_rfl) (by kernel_rfl) (by kernel_rfl) rfl (fun V hV => by obtain ⟨s1, s2, s3, s4, s5⟩ := hV; go_simp) hS0 ?_
                refine heldTake 5 (.int .i64 q) rfl (by kernel_rfl) (by kernel_rfl) (by kernel_rfl) rfl (fun V hV => by obtain ⟨s1, s2, s3, s4, s5⟩ := hV; go_simp) hS0 ?_
                refine heldTake 6 (.int .i64 pn) rfl (by kernel_rfl) (by kernel_rfl) (by kernel_rfl) rfl (fun V hV => by obtain ⟨s1, s2, s3, s4, s5⟩ := hV; go_simp) hS0 ?_
                refine heldTake 7 (.int .i64 j) rfl (by kernel_rfl) (by kernel_rfl) (by kernel_rfl) rfl (fun V hV => by obtain ⟨s1, s2, s3, s4, s5⟩ := hV; go_simp) hS0 ?_
                refine heldTake 8 (.pointer (some ⟨b, 1, none⟩)) rfl (by kernel_rfl) (by kernel_rfl) (by kernel_rfl) rfl (fun V hV => by obtain ⟨s1, s2, s3, s4, s5⟩ := hV; go_simp) hS0 ?_
                refine heldTake 9 (.string ⟨y.toArray⟩) rfl (by kernel_rfl) (by kernel_rfl) (by kernel_rfl) rfl (fun V hV => by obtain ⟨s1, s2, s3, s4, s5⟩ := hV; go_simp) hS0 ?_
                refine heldTake 10 (.int .i64 q) rfl (by kernel_rfl) (by kernel_rfl) (by kernel_rfl) rfl (fun V hV => by obtain ⟨s1, s2, s3, s4, s5⟩ := hV; go_simp) hS0 ?_
                refine heldTake 11 (.pointer (some ⟨b, 0, none⟩)) rfl (by kernel_rfl) (by kernel_rfl) (by kernel_rfl) rfl (fun V hV => by obtain ⟨s1, s2, s3, s4, s5⟩ := hV; go_simp) hS0 ?_
                refine heldTake 12 (.int .i64 an) rfl (by kernel_rfl) (by kernel_rfl) (by kernel_rfl) rfl (fun V hV => by obtain ⟨s1, s2, s3, s4, s5⟩ := hV; go_simp) hS0 ?_
                refine heldTake 13 (.int .i64 t) rfl (by kernel_rfl) (by kernel_rfl) (by kernel_rfl) rfl (fun V hV => by obtain ⟨s1, s2, s3, s4, s5⟩ := hV; go_simp) hS0 ?_
                refine heldTake 14 (.int .u8 (yt.toNat : Int)) rfl (by kernel_rfl) (by kernel_rfl) (by kernel_rfl) rfl (fun V hV => by obtain ⟨s1, s2, s3, s4, s5⟩ := hV; go_simp) hS0 ?_
                refine heldTake 15 (.pointer (some ⟨bo, j, none⟩)) rfl (by kernel_rfl) (by kernel_rfl) (by kernel_rfl) rfl (fun V hV => by obtain ⟨s1, s2, s3, s4, s5⟩ := hV; go_simp) hS0 ?_
                have g1 := grown_cell wr bo j (.int .u8 (yt.toNat : Int))
                have hB10' := heap_keeps hB10 g1 n1
                have hB11' := heap_keeps hB11 g1 n3
                have hW1' := heap_keeps hW1 g1 (by omega)
                have hbw' := heap_keeps hbw g1 (by omega)
                have g2 := grown_cell (wr.setCell ⟨bo, j, none⟩ (.int .u8 (yt.toNat : Int))) bk j (.bool true)
                have hB10'' := heap_keeps hB10' g2 n2
                have hB11'' := heap_keeps hB11' g2 n4
                have hW1'' := heap_keeps hW1' g2 (by omega)
                have hbw'' := heap_keeps hbw' g2 (by omega)
                have hkf' := tab_frozen (heap_keeps hR.known g1 (fun e => hne e.symm)) j
                refine heldOne 16 (w' := (wr.setCell ⟨bo, j, none⟩ (.int .u8 (yt.toNat : Int))).drew) rfl (by kernel_rfl) rfl (by go_simp) ⟨cell1 hB10', cell1 hB11', cell1 hW1', cell2_0 hbw', cell2_1 hbw'⟩ ?_
                refine heldTake 17 (.pointer (some ⟨bk, j, none⟩)) rfl (by kernel_rfl) (by kernel_rfl) (by kernel_rfl) rfl (fun V hV => by obtain ⟨s1, s2, s3, s4, s5⟩ := hV; go_simp) ⟨cell1 hB10', cell1 hB11', cell1 hW1', cell2_0 hbw', cell2_1 hbw'⟩ ?_
                refine heldOne 18 (w' := ((wr.setCell ⟨bo, j, none⟩ (.int .u8 (yt.toNat : Int))).setCell ⟨bk, j, none⟩ (.bool true)).drew) rfl (by kernel_rfl) rfl (by go_simp) ⟨cell1 hB10'', cell1 hB11'', cell1 hW1'', cell2_0 hbw'', cell2_1 hbw''⟩ ?_
                refine wpAnyH_done (by kernel_rfl) ⟨rfl, ?_⟩ _
                gi_wp2
                have gs1 := g1.size
                have gs2 := g2.size
                exact ⟨⟨q + 1, rfl, by omega, by omega, ((hR.lay (fun i _ => hly i)).1).drew, fun k hk hkW => (g2.block k (by omega) (fun e => by cases e; omega)).trans ((g1.block k (by omega) (fun e => by cases e; omega)).trans (hkp k hk hkW)), Nat.le_trans hsz3 (Nat.le_trans gs1 gs2)⟩, by simp [intOf]; omega⟩
            · have hlt' : decide ((q : Int) < (e0 : Int)) = false := by simp; omega
              gi_wp2
              refine ⟨⟨hsz3, fun k o hk ho _ => (hkp k (by omega) (Array.getElem?_eq_some_iff.1 ho).1).trans ho⟩, hkp _ (Nat.le_refl _) (by omega), hR.congr fun j hj => ?_⟩
              exact (stq_end pre (kx, (an : Int), y) pn nn q j hj (by dsimp only; omega)).symm
        case done =>
          rintro D W hD hR hK
          have hF0 := hR.fill
          subst hL
          have hD' : wc.heap.size < D := by omega
          clear hR hrest hD
          have hB10 := (hF0.kept _ l3 n1 n2).trans hrm.box10
          have z5 := cell1 hB10
          gi_wp2
          obtain ⟨kn, hkn⟩ : ∃ kn : Nat → Bool, kn = fun j => (got (restB d.2 d.2.length) (pn + j)).isSome := ⟨_, rfl⟩
          have hfk := fun j => fin_known hg pn j
          have hfb := fun j => fin_block hg pn j
          have hfa := fin_all hg pn nn hfit
          rw [← hkn] at hF0
          have hfk' : ∀ j, kn j = true → fin d pn j = (got (restB d.2 d.2.length) (pn + j)).getD 0 := by rw [hkn]; exact hfk
          have hfb' : ∀ j, kn j = false → ∀ {k r : Nat}, pn + j = 64 * k + r → r < 64 → (hkl : k < d.1.length) → (d.1[k])[r]? = some (fin d pn j) := by rw [hkn]; exact hfb
          clear hkn hfk hfb z5
          obtain ⟨o0, ho0⟩ : ∃ o0 : Nat → UInt8, o0 = fun j => (got (restB d.2 d.2.length) (pn + j)).getD 0 := ⟨_, rfl⟩
          have hfk : ∀ j, kn j = true → fin d pn j = o0 j := by rw [ho0]; exact hfk'
          rw [← ho0] at hF0
          clear hfk' ho0
          gi_loopw [83] (fun i wr => ∃ k : Nat, i = .int .i64 k ∧ k ≤ nn ∧ FillI w wc nn bo bk (fun j => if j < k then fin d pn j else o0 j) kn wr ∧ (∀ k, wc.heap.size ≤ k → k < W.heap.size → wr.heap[k]? = W.heap[k]?) ∧ W.heap.size ≤ wr.heap.size) (fun i _ => nn - (intOf i).toNat)
          case atStart => exact ⟨0, rfl, Nat.zero_le _, hF0.congr fun j _ => by simp, fun _ _ _ => rfl, Nat.le_refl _⟩
          case round =>
            obtain ⟨k, rfl, hk, hF, hkp, hsz3⟩ := hrel
            have hk1 := (hF.kept w.heap.size (by omega) (by omega) (by omega)).trans K1
            have hW1 : wr.heap[w.heap.size + 1]? = some (.cells #[.int .i64 pn] 3 (0, 0)) := (hF.kept _ (by omega) (by omega) (by omega)).trans K2
            have hB10 := (hF.kept _ l3 n1 n2).trans hrm.box10
            have hB11 := (hF.kept _ l4 n3 n4).trans hrm.box11
            have z1 := cell1 hW1
            have z2 := cell2_0 hk1
            have z5 := cell1 hB10
            have z6 := cell1 hB11
            by_cases hlt : k < nn
            · have hlt' : decide ((k : Int) < (nn : Int)) = true := by simp; omega
              have hkc := tab_cell hF.known hlt
              have hof := tab_frozen hF.out k
              have hoc := tab_cell hF.out hlt
              obtain ⟨q, hq⟩ : ∃ q : Nat, (pn : Int) + (k : Int) = (q : Int) := ⟨pn + k, by omega⟩
              obtain ⟨kb, hkb⟩ : ∃ kb, kb = q / 64 := ⟨_, rfl⟩
              obtain ⟨rb, hrb⟩ : ∃ rb, rb = q % 64 := ⟨_, rfl⟩
              have e1 : (q : Int) / 64 = (kb : Int) := by omega
              have e2 : (q : Int) % 64 = (rb : Int) := by omega
              have hkbl : kb < d.1.length := by omega
              have hrb64 : rb < 64 := by omega
              have hqe : pn + k = 64 * kb + rb := by omega
              have hbk2 := hbc kb hkbl
              have hfbk := fun h => hfb' k h hqe hrb64 hkbl
              have hlen := hg.2.2.1 _ (List.getElem_mem hkbl)
              obtain ⟨B, hB⟩ : ∃ B, B = d.1[kb] := ⟨_, rfl⟩
              rw [← hB] at hbk2 hfbk hlen
              obtain ⟨ad, hab, hcB⟩ := hbk2
              have hcB' := cell_below hF.below hcB
              cases hkk : kn k with
              | true =>
                rw [hkk] at hkc
                have hfe := hfk k hkk
                clear hkb hrb hfbk hB hof hoc hcB' hcB
                gi_wp2
                refine ⟨⟨k + 1, rfl, hlt, hF.congr fun j hj => ?_, hkp, hsz3⟩, by simp [intOf]; omega⟩
                by_cases e : j = k
                · rw [if_pos (by omega), if_neg (by omega), e, hfe]
                · by_cases e' : j < k
                  · rw [if_pos (by omega), if_pos e']
                  · rw [if_neg (by omega), if_neg e']
              | false =>
                rw [hkk] at hkc
                have hfe := hfbk hkk
                have hix := str_at B rb _ hfe
                clear hkb hrb hfbk hB hcB
                subst hab
                have hly : ∀ i, i < nn → (fun j => if j < k + 1 then fin d pn j else o0 j) i = if i = k then fin d pn k else (fun j => if j < k then fin d pn j else o0 j) i := fun i _ => by
                  dsimp only
                  by_cases e : i = k
                  · rw [if_pos (by omega), if_pos e, e]
                  · rw [if_neg e]
                    by_cases e' : i < k
                    · rw [if_pos (by omega), if_pos e']
                    · rw [if_neg (by omega), if_neg e']
                have hHly := Lib.hid hly
                have hg1 := grown_cell wr bo k (.int .u8 ((fin d pn k).toNat : Int))
                have hHg := Lib.hid hg1
                clear hly hg1 hfe
                gi_wp2
                refine wpIn_wide.2 ?_
                have hwkb : IntKind.i64.wrap (kb : Int) = (kb : Int) := by rw [IntKind.wrap_i64]; omega
                have hwrb : IntKind.i64.wrap (rb : Int) = (rb : Int) := by rw [IntKind.wrap_i64]; omega
                have htm : Int.tmod (q : Int) 64 = (rb : Int) := by rw [Int.tmod_eq_emod_of_nonneg (by omega)]; exact e2
                have hgo := cell1 hB10
                go_still_tail 11, (by kernel_rfl)
                go_wp2
                gi_wp2
                have hgx := hHg.out
                exact ⟨⟨k + 1, rfl, hlt, (hF.lay (Nat.le_trans (Nat.le_trans (Nat.le_add_right _ 3) hw2) q1) hne hHly.out).drew, fun j hj hj2 => (hgx.block j (by omega) (fun e => by cases e; omega)).trans (hkp j hj hj2), Nat.le_trans hsz3 hgx.size⟩, by simp [intOf]; omega⟩
            · have hlt' : decide ((k : Int) < (nn : Int)) = false := by simp; omega
              obtain rfl : k = nn := by omega
              have hA : ArrIs wr bo 5 ((List.range k).map (fin d pn)) := by
                unfold ArrIs
                rw [← tab_bytes]
                exact (hF.congr fun j hj => by rw [if_pos hj]).out
              have hcv := arr_string wr k hA
              rw [List.length_map, List.length_range, hfa] at hcv
              have hKD := (hkp D (by omega) (Array.getElem?_eq_some_iff.1 hK).1).trans hK
              gi_wp2
              refine ⟨by simp, .inl ⟨_, _, rfl, run_takeDeferred hKD, ?_⟩⟩
              have hr := hHr.out
              subst hr
              refine ⟨_, results_tmp2 rfl _ _ _, rfl, ?_⟩
              exact hF.below.grown (grownBy_putObj' wr D (.deferred none)) hF.below.size (fun j e => by cases e; omega)
        case stop => exact fun D j pre W _ _ h _ => h.elim
  · have h0' : ((c1 : Int) == 0) = false := by simp; omega
    rw [if_pos h0] at hr
    subst hr
    clear h0 hgd
    gi_wp2_with (refine ⟨trivial, ?_⟩; gi_at_call 74; refine (callsIn_wide.2 (HC.out _ (hD.out.below hal))).mono ?_; clear HC; rintro e w1 ⟨rfl, b1⟩)
    exact ⟨_, results_tmp2 rfl _ _ _, rfl, hal.trans (b1.mono hal.size)⟩
end Go.Proofs.YtmfbkelhegdmpaaGreatDoor
