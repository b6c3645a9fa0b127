/- The walks of split and Split of chapter 10 (stuff). -/
import Derived.Test.YtcpahelmaejjeaaDoorStuffD
namespace Go.Proofs.YtcpahelmaejjeaaDoor
open Go.RowKit Go.Shelf Stuff10

attribute [local go_sem] Oper.semAt_some

/-- What stands between two rounds of split: w: the world at the call's start. -/
structure SplitI (m : Int) (w : World) (pre : List (List UInt8 × Bool)) (W : World) : Prop where
  found : FoundAt W (w.heap.size + 4) (w.heap.size + 1) (after pre ([], 0))
  below : Below w.heap.size w W
  res : W.heap[w.heap.size]? = some (.cells #[.slice none 0 0, .int .i64 0] 68 (0, 0))
  box : W.heap[w.heap.size + 2]? = some (.cells #[.string ⟨#[]⟩] 9 (0, 0))
  cell : ∃ v, W.heap[w.heap.size + 3]? = some (.cells #[v] 9 (0, 0))
  max : MaxIs m W
  size : w.heap.size + 4 ≤ W.heap.size
/-- What stands when split leaves its loop. -/
structure SplitX (w : World) (r : (List (List UInt8) × Nat) × List UInt8) (W : World) : Prop where
  found : FoundAt W (w.heap.size + 4) (w.heap.size + 1) r.1
  below : Below w.heap.size w W
  res : W.heap[w.heap.size]? = some (.cells #[.slice none 0 0, .int .i64 0] 68 (0, 0))
  box : W.heap[w.heap.size + 2]? = some (.cells #[.string ⟨r.2.toArray⟩] 9 (0, 0))
  cell : ∃ v, W.heap[w.heap.size + 3]? = some (.cells #[v] 9 (0, 0))
  size : w.heap.size + 4 ≤ W.heap.size
theorem FoundAt.grown {W W' : World} {B b k : Nat} {a : List (List UInt8) × Nat} (h : FoundAt W B b a) (hg : W.grownBy W' (some k)) (hk : k ≠ b) (hv : k < B ∨ ∀ cs t fz, W.heap[k]? ≠ some (.cells cs t fz)) : FoundAt W' B b a := by
  obtain ⟨v, h1, h2⟩ := h
  refine ⟨v, (hg.block _ (Array.getElem?_eq_some_iff.1 h1).1 (fun e => hk (by cases e; rfl))).trans h1, h2.kept hg (.inl fun e => ?_)⟩
  obtain ⟨h3, cs, t, fz, h4⟩ := h2.owner e.symm
  rcases hv with hv | hv
  · omega
  · exact hv cs t fz h4
theorem MaxIs.kept {m : Int} {W W' : World} (h : MaxIs m W) (hb : W'.heap[1]? = W.heap[1]?) : MaxIs m W' := by
  unfold MaxIs World.cell? at *
  rw [hb]; exact h
theorem heap_kept {W W' : World} {k j : Nat} {o : Obj} (h : W.heap[j]? = some o) (hg : W.grownBy W' (some k)) (hk : j ≠ k) : W'.heap[j]? = some o :=
  (hg.block _ (Array.getElem?_eq_some_iff.1 h).1 (fun e => hk (by cases e; rfl))).trans h

theorem splitI_mine (m : Int) (w : World) (B : Nat) (hB : w.heap.size + 4 ≤ B) (hG : 1 < w.heap.size) : Mine (w.heap.size + 3) 9 B (SplitI m w) := by
  refine ⟨fun s A A' h hT => ?_, fun s A A' k h hg hk ⟨o, ho, hoc⟩ => ?_⟩
  · obtain ⟨v, hv⟩ := h.cell
    have hs := h.size
    have hs0 := h.below.size
    exact ⟨h.found.grown hT.1 (by omega) (.inl (by omega)), h.below.grown hT.1 hs0 (fun k hk => by cases hk; omega), heap_kept h.res hT.1 (by omega), heap_kept h.box hT.1 (by omega), hT.2, h.max.kept (hT.1.block _ (by omega) (fun e => by have := Option.some.inj e; omega)), Nat.le_trans h.size hT.1.size⟩
  · obtain ⟨v, hv⟩ := h.cell
    have hs := h.size
    have hs0 := h.below.size
    exact ⟨h.found.grown hg (by omega) (.inr fun cs t fz e => by rw [ho] at e; cases e; cases hoc), h.below.grown hg hs0 (fun j hj => by cases hj; omega), heap_kept h.res hg (by omega), heap_kept h.box hg (by omega), ⟨v, heap_kept hv hg (by omega)⟩, h.max.kept (hg.block _ (by omega) (fun e => by have := Option.some.inj e; omega)), Nat.le_trans h.size hg.size⟩
theorem mine_and {β : Type} {c t B : Nat} {I : β → World → Prop} (p : β → Prop) (h : Mine c t B I) : Mine c t B (fun s W => p s ∧ I s W) :=
  ⟨fun s A A' ⟨hp, hi⟩ hT => ⟨hp, h.1 s A A' hi hT⟩, fun s A A' k ⟨hp, hi⟩ hg hk ho => ⟨hp, h.2 s A A' k hi hg hk ho⟩⟩
theorem splitX_mine (w : World) (r : (List (List UInt8) × Nat) × List UInt8) (B : Nat) (hB : w.heap.size + 4 ≤ B) {β : Type} (p : β → Prop) : Mine (w.heap.size + 3) 9 B (fun s W => p s ∧ SplitX w r W) := by
  refine ⟨fun s A A' ⟨hp, h⟩ hT => ⟨hp, ?_⟩, fun s A A' k ⟨hp, h⟩ hg hk ⟨o, ho, hoc⟩ => ⟨hp, ?_⟩⟩
  · obtain ⟨v, hv⟩ := h.cell
    have hs := h.size
    have hs0 := h.below.size
    exact ⟨h.found.grown hT.1 (by omega) (.inl (by omega)), h.below.grown hT.1 hs0 (fun k hk => by cases hk; omega), heap_kept h.res hT.1 (by omega), heap_kept h.box hT.1 (by omega), hT.2, Nat.le_trans h.size hT.1.size⟩
  · obtain ⟨v, hv⟩ := h.cell
    have hs := h.size
    have hs0 := h.below.size
    exact ⟨h.found.grown hg (by omega) (.inr fun cs t fz e => by rw [ho] at e; cases e; cases hoc), h.below.grown hg hs0 (fun j hj => by cases hj; omega), heap_kept h.res hg (by omega), heap_kept h.box hg (by omega), ⟨v, heap_kept hv hg (by omega)⟩, Nat.le_trans h.size hg.size⟩

theorem results_cell_tmp {fn : Func} {P : Program} {p u : Tmp} {ty : TypeId} (h : fn.results = #[.cell p ty, .tmp u]) (tmps : Array Value) (w : World) (g : Nat) (t : TypeId) (cs : Array Value) (fr : Nat × Nat) (d : TypeDesc)
    (hp : tmps.getD p undef = .pointer (some ⟨g, 0, none⟩)) (hg : w.heap[g]? = some (.cells cs t fr))
    (hu : P.underlying ty = some d) (hd : (match d with | .struct _ | .array _ _ => true | _ => false) = true) (hi : (P.info? ty).map (·.size) = some cs.size) :
    (results fn tmps).run P w = .ok (.tuple #[.agg cs, tmps.getD u undef]) w := by
  have hp' : tmps[p]?.getD undef = .pointer (some ⟨g, 0, none⟩) := by simpa using hp
  simp [results, h, hp', asAddr, Result.andThen, run_loadVar_row w g t ty cs fr d hg hu hd hi]
/-- All these parts are complete. -/
def AllOn (pre : List (List UInt8 × Bool)) : Prop := ∀ y ∈ pre, y.2 = true
theorem alloc4 (w : World) (a b c d : Obj) : ((((w.alloc a).alloc b).alloc c).alloc d).heap[w.heap.size]? = some a ∧ ((((w.alloc a).alloc b).alloc c).alloc d).heap[w.heap.size + 1]? = some b ∧
    ((((w.alloc a).alloc b).alloc c).alloc d).heap[w.heap.size + 2]? = some c ∧ ((((w.alloc a).alloc b).alloc c).alloc d).heap[w.heap.size + 3]? = some d ∧ ((((w.alloc a).alloc b).alloc c).alloc d).heap.size = w.heap.size + 4 ∧ Below w.heap.size w ((((w.alloc a).alloc b).alloc c).alloc d) := by
  have e1 : (w.alloc a).heap.size = w.heap.size + 1 := World.size_alloc ..
  have e2 : ((w.alloc a).alloc b).heap.size = w.heap.size + 2 := by rw [World.size_alloc, e1]
  have e3 : (((w.alloc a).alloc b).alloc c).heap.size = w.heap.size + 3 := by rw [World.size_alloc, e2]
  have h1 := World.alloc_heap_new w a
  have h2 := World.alloc_heap_new (w.alloc a) b
  have h3 := World.alloc_heap_new ((w.alloc a).alloc b) c
  have h4 := World.alloc_heap_new (((w.alloc a).alloc b).alloc c) d
  rw [e1] at h2; rw [e2] at h3; rw [e3] at h4
  refine ⟨?_, ?_, ?_, h4, by rw [World.size_alloc, e3], ?_⟩
  · rw [Below.heap_alloc _ _ _ (by omega), Below.heap_alloc _ _ _ (by omega), Below.heap_alloc _ _ _ (by omega)]; exact h1
  · rw [Below.heap_alloc _ _ _ (by omega), Below.heap_alloc _ _ _ (by omega)]; exact h2
  · rw [Below.heap_alloc _ _ _ (by omega)]; exact h3
  · exact ((((Below.refl _ w).alloc (Nat.le_refl _) _).alloc (by omega) _).alloc (by omega) _).alloc (by omega) _

set_option maxHeartbeats 2000000 in
set_option maxRecDepth 100000 in
theorem split_any (m : Int) (s : ByteArray) (hs : s.size < 4294967281) (w : World) (hG : 1 < w.heap.size) (hm : MaxIs m w) :
    Calls Tryd.prog 36 #[.string s] w fun e w' => ∃ v, e = .returned (.tuple #[.agg #[v, .int .i64 (splitS s.data.toList).1.2], .string ⟨(splitS s.data.toList).2.toArray⟩]) ∧ Txt w' (w.heap.size + 4) v (splitS s.data.toList).1.1 ∧ Below w.heap.size w w' := by
  refine (callsIn_wide (n := 9)).1 ?_
  obtain ⟨r, hr⟩ : ∃ r, r = splitS s.data.toList := ⟨_, rfl⟩
  rw [← hr]
  obtain ⟨L, hL⟩ : ∃ L, L = segs (s.data.toList.length + 1) s.data.toList := ⟨_, rfl⟩
  have hstop : ∀ pre x post, L = pre ++ x :: post → (∀ y ∈ pre, y.2 = true) → x.2 = false → r = (after pre ([], 0), x.1) := by rw [hr, hL]; exact split_stop s.data.toList
  have hnever : (∀ y ∈ L, y.2 = true) → False := by rw [hL]; exact split_never s.data.toList
  obtain ⟨hLn, hLl⟩ := segs_le (s.data.toList.length + 1) s.data.toList
  rw [← hL, length_size] at hLn hLl
  clear hr
  refine callsIn_of_wp_marks Tryd.func36 rfl trivial ?_ rfl
  simp only [Tryd.ntmps36, List.size_toArray, List.length_cons, List.length_nil, Nat.reduceAdd, Nat.reduceSub, Array.replicate_succ, Array.replicate_zero, List.push_toArray, List.append_toArray, List.nil_append, List.cons_append]
  have hp := fun n W => parts_any n s W
  gi_wp2_with (refine ⟨trivial, ?_⟩; gi_at_call 43; refine (hp _ _).mono ?_; clear hp; rintro e w' ⟨rfl, rfl⟩)
  obtain ⟨c2, c4, c5, cc, hsz, hb0⟩ := alloc4 w (.cells #[.slice none 0 0, .int .i64 0] 68) (.cells #[.slice none 0 0, .int .i64 0] 68) (.cells #[.string ⟨#[]⟩] 9) (.cells #[.string s] 9)
  simp only [Nat.add_assoc, Nat.reduceAdd]
  generalize ((((w.alloc (.cells #[.slice none 0 0, .int .i64 0] 68)).alloc (.cells #[.slice none 0 0, .int .i64 0] 68)).alloc (.cells #[.string ⟨#[]⟩] 9)).alloc (.cells #[.string s] 9)) = W0 at *
  refine range_cell rfl (by omega) (gf := 55) (lb := #[.pointer (some ⟨w.heap.size + 3, 0, none⟩)]) rfl trivial (enters_of Tryd.func55 (by kernel_rfl) rfl)
    (parts1_any _ _ m s hs L hL) cc (fun _ => rfl) (fun pre W => AllOn pre ∧ SplitI m w pre W) (fun j pre W => j = .exit 0 ∧ SplitX w r W) (mine_and _ (splitI_mine m w _ (by omega) hG)) (fun _ _ h => h.2.max) (fun j => splitX_mine w r _ (by omega) (fun _ => j = .exit 0))
    (fun W hb => ⟨fun _ h => by simp at h, ⟨⟨_, (hb.block _ (by omega)).trans c4, Txt.nil _ _⟩, hb0.trans (hb.mono (by omega)), (hb.block _ (by omega)).trans c2, (hb.block _ (by omega)).trans c5, ⟨_, (hb.block _ (by omega)).trans cc⟩, (hm.kept (hb0.block _ hG)).kept (hb.block _ (by omega)), by rw [← hsz]; exact hb.size⟩⟩)
    (fun x => { tmps := #[.string s, undef, .pointer (some ⟨w.heap.size, 0, none⟩), .string ⟨#[]⟩, .pointer (some ⟨w.heap.size + 1, 0, none⟩), .pointer (some ⟨w.heap.size + 2, 0, none⟩), .string ⟨x.1.toArray⟩, .bool x.2, .string s, .func (.func 55) #[] #[.pointer (some ⟨w.heap.size + 3, 0, none⟩)], .string ⟨x.1.toArray⟩, .bool x.2, undef, undef, undef, undef, undef, undef, undef], defers := [] }) ?assign ?body ?done ?stop
  case assign =>
    intro l x W K hK
    unfold piece
    gi_wp2
    exact hK
  case done =>
    rintro D W hD ⟨h1, h2⟩ hK
    exact (hnever h1).elim
  case body =>
    rintro l pre x post W hx ⟨h1, h2⟩
    have hs2 := h2.size
    have hbx := h2.box
    have hbc := cell_of hbx
    have hbf := frozen_of hbx
    have hxl : x.1.length ≤ s.size := hLl x (by rw [hx]; simp)
    have hpn : pre.length ≤ s.size := by have := congrArg List.length hx; simp only [List.length_append, List.length_cons] at this; omega
    have hst := hstop pre x post hx h1
    have hHx := Lib.hid hx
    clear hx hstop hnever hL
    obtain ⟨p, c⟩ := x
    cases c with
    | false =>
      have hr := hst rfl
      clear hst
      have hHr := Lib.hid hr
      clear hr
      gi_wp2
      have hr := hHr.out
      subst hr
      have hg := grown_cell W (w.heap.size + 2) 0 (.string ⟨p.toArray⟩)
      obtain ⟨v, hv⟩ := h2.cell
      have hwb := h2.below.size
      exact ⟨KeepsFrom.of_grownBy hg (fun j e => by cases e; omega), rfl, h2.found.grown hg (by omega) (.inl (by omega)), h2.below.grown hg hwb (fun j e => by cases e; omega), heap_kept h2.res hg (by omega), set_heap hbx _, ⟨v, heap_kept hv hg (by omega)⟩, Nat.le_trans hs2 hg.size⟩
    | true =>
      clear hst
      have hcnt := after_count pre ([], 0)
      simp only [List.length_nil] at hcnt
      have hpart := part_any (w.heap.size + 4) (w.heap.size + 1) (after pre ([], 0)) ⟨p.toArray⟩ (by show p.length ≤ _; exact Nat.le_trans hxl (by omega)) W h2.size (by omega) h2.found (by omega) (by omega)
      have hP := Lib.hid hpart
      clear hpart
      gi_wp2_with (refine ⟨trivial, ?_⟩; gi_at_call 44; refine (CallsIn.inRound l (callsIn_wide.2 hP.out)).mono ?_; clear hP; rintro e W2 ⟨rfl, f2, p2⟩)
      obtain ⟨v, hv⟩ := h2.cell
      rw [hsz]
      refine ⟨⟨p2.size, p2.same⟩, p2.block _ (by omega) (by omega), fun y hy => ?_, by rw [after_snoc]; exact f2, h2.below.trans ⟨p2.os, p2.tape, p2.output, p2.size, fun k hk => p2.block k (by omega) (by omega)⟩, (p2.block _ (by omega) (by omega)).trans h2.res, (p2.block _ (by omega) (by omega)).trans h2.box, ⟨v, (p2.block _ (by omega) (by omega)).trans hv⟩, h2.max.kept (p2.block _ (by omega) (by omega)), Nat.le_trans hs2 p2.size⟩
      rcases List.mem_append.1 hy with h | h
      · exact h1 y h
      · simp at h; rw [h]
  case stop =>
    rintro D j pre W hD hpre ⟨rfl, h⟩ hK
    clear hL hstop hnever hpre
    obtain ⟨v, hv, ht⟩ := h.found
    obtain ⟨ad, n, cp, rfl⟩ : ∃ ad n cp, v = .slice ad n cp := by
      rcases ht.form with ⟨e, _⟩ | ⟨g, cap, e, _⟩ <;> exact ⟨_, _, _, e⟩
    have d0 := cell2_0 hv
    have d1 := cell2_1 hv
    have d2 := cell_of h.box
    have g0 := frozen2 h.res 0
    have g1 := frozen2 h.res 1
    have g2 := cell2_0 h.res
    have g3 := cell2_1 h.res
    gi_wp2
    gi_region
    gi_wp2
    have e1 := Lib.heap_setCell_same (i := 0) h.res (.slice ad n cp)
    have e2 := Lib.heap_setCell_same (i := 1) e1 (.int .i64 r.1.2)
    have hg1 := grown_cell W w.heap.size 0 (.slice ad n cp)
    have hg2 := grown_cell (W.setCell ⟨w.heap.size, 0, none⟩ (.slice ad n cp)) w.heap.size 1 (.int .i64 r.1.2)
    have hK2 := heap_kept (heap_kept hK hg1 (by omega)) hg2 (by omega)
    have ht2 := (ht.kept hg1 (.inl (ht.not_own (by omega)))).kept hg2 (.inl (Txt.not_own (ht.kept hg1 (.inl (ht.not_own (by omega)))) (by omega)))
    have hb2 := (h.below.grown hg1 h.below.size (fun j e => by cases e; omega)).grown hg2 (Nat.le_trans h.below.size hg1.size) (fun j e => by cases e; omega)
    generalize (W.setCell ⟨w.heap.size, 0, none⟩ (.slice ad n cp)).setCell ⟨w.heap.size, 1, none⟩ (.int .i64 r.1.2) = W3 at *
    have hg3 := grownBy_putObj' W3.drew D (.deferred none)
    refine ⟨by simp, .inl ⟨_, _, rfl, run_takeDeferred (show W3.drew.heap[D]? = _ from hK2), ?_⟩⟩
    refine ⟨_, results_cell_tmp rfl _ _ w.heap.size _ _ _ _ rfl (heap_kept (show W3.drew.heap[w.heap.size]? = _ from e2) hg3 (by omega)) Tryd.underlying68 rfl (by kernel_rfl), _, rfl, ?_, ?_⟩
    · refine Txt.kept ht2.drew hg3 (.inl fun e => ?_)
      obtain ⟨_, cs, t, fz, hc⟩ := ht2.owner e.symm
      rw [hK2] at hc; cases hc
    · exact hb2.drew.grown hg3 hb2.size (fun j e => by cases e; omega)
end Go.Proofs.YtcpahelmaejjeaaDoor
