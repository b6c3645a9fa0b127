/- The walks of what is found in a stream: a complete part, chapter 10. -/
import Derived.Test.YtcpahelmaejjeaaDoorStuffC
import Derived.Test.YtcpahelmaejjeaaDoorKitS
import Derived.Test.YtcpahelmaejjeaaDoorStuffG
namespace Go.Proofs.YtcpahelmaejjeaaDoor
open Go.RowKit Go.Shelf Stuff10

attribute [local go_sem] Oper.semAt_some

/-- What was found lies in the block b; its rows lie from block B on. -/
def FoundAt (W : World) (B b : Nat) (a : List (List UInt8) × Nat) : Prop := ∃ v, W.heap[b]? = some (.cells #[v, .int .i64 a.2] 68 (0, 0)) ∧ Txt W B v a.1
/-- A step that turns of the blocks below B just b. -/
structure Part (B b : Nat) (W W' : World) : Prop where
  os : W'.os = W.os
  tape : W'.tape = W.tape
  output : W'.output = W.output
  size : W.heap.size ≤ W'.heap.size
  block : ∀ k, k < B → k ≠ b → W'.heap[k]? = W.heap[k]?
  same : ∀ (k : Nat) (o : Obj), B ≤ k → W.heap[k]? = some o → o.isCells = false → W'.heap[k]? = some o
theorem Part.refl (B b : Nat) (W : World) : Part B b W W := ⟨rfl, rfl, rfl, Nat.le_refl _, fun _ _ _ => rfl, fun _ _ _ h _ => h⟩
theorem Part.trans {B b : Nat} {X Y Z : World} (h : Part B b X Y) (k : Part B b Y Z) : Part B b X Z :=
  ⟨k.os.trans h.os, k.tape.trans h.tape, k.output.trans h.output, Nat.le_trans h.size k.size, fun i hi hn => (k.block i hi hn).trans (h.block i hi hn), fun i o hB hi ho => k.same i o hB (h.same i o hB hi ho) ho⟩
theorem Part.of_below {B b : Nat} {W W' : World} (h : Below W.heap.size W W') (hB : B ≤ W.heap.size) : Part B b W W' :=
  ⟨h.os, h.tape, h.output, h.size, fun k hk _ => h.block k (by omega), fun k o _ hk _ => (h.block k (Array.getElem?_eq_some_iff.1 hk).1).trans hk⟩
theorem FoundAt.below {W W' : World} {B b : Nat} {a : List (List UInt8) × Nat} (h : FoundAt W B b a) (hb : Below W.heap.size W W') : FoundAt W' B b a := by
  obtain ⟨v, h1, h2⟩ := h
  exact ⟨v, (hb.block _ (Array.getElem?_eq_some_iff.1 h1).1).trans h1, h2.below hb⟩

theorem cell2_0 {w : World} {b t : Nat} {x y : Value} (h : w.heap[b]? = some (.cells #[x, y] t (0, 0))) : w.cell? ⟨b, 0, none⟩ = some x := by simp [World.cell?, h]
theorem cell2_1 {w : World} {b t : Nat} {x y : Value} (h : w.heap[b]? = some (.cells #[x, y] t (0, 0))) : w.cell? ⟨b, 1, none⟩ = some y := by simp [World.cell?, h]
theorem frozen2 {w : World} {b t : Nat} {x y : Value} (h : w.heap[b]? = some (.cells #[x, y] t (0, 0))) (j : Nat) : w.frozen? ⟨b, j, none⟩ = false := by simp [World.frozen?, h]

theorem Txt.owner {w : World} {B : Nat} {v : Value} {l : List (List UInt8)} (h : Txt w B v l) {k : Nat} (e : v.ownBlock = some k) : B ≤ k ∧ ∃ cs t fz, w.heap[k]? = some (.cells cs t fz) := by
  rcases h.2 with ⟨rfl, _⟩ | ⟨g, cap, cur, rfl, hb, hg, _⟩
  · simp [Value.ownBlock] at e
  · simp only [Value.ownBlock, Option.some.injEq] at e
    subst e
    exact ⟨hb, _, _, _, hg⟩
theorem Txt.kept {w w' : World} {B : Nat} {v : Value} {l : List (List UInt8)} {row : Option Nat} (h : Txt w B v l) (hg : w.grownBy w' row) (hr : row ≠ v.ownBlock ∨ v.ownBlock = none) : Txt w' B v l := by
  refine World.ownsRow.kept h hg ?_
  rcases hr with hr | hr
  · exact Or.inr (fun e => hr e.symm)
  · exact Or.inl hr
theorem Part.of_grown {B b : Nat} {W W' : World} (h : W.grownBy W' (some b)) (hB : B ≤ W.heap.size) (hb : b < B) : Part B b W W' :=
  ⟨h.os, h.tape, h.output, h.size, fun k hk hn => h.block k (by omega) (fun e => hn (by cases e; rfl)), fun k o hk ho _ => (h.block k (Array.getElem?_eq_some_iff.1 ho).1 (fun e => by cases e; omega)).trans ho⟩
theorem Part.of_row {B b : Nat} {W W' : World} {v : Value} {l : List (List UInt8)} (ht : Txt W B v l) (h : W.grownBy W' v.ownBlock) (hB : B ≤ W.heap.size) : Part B b W W' :=
  ⟨h.os, h.tape, h.output, h.size, fun k hk _ => h.block k (by omega) (fun e => by have := (ht.owner e.symm).1; omega), fun k o _ ho hoc => (h.block k (Array.getElem?_eq_some_iff.1 ho).1 (fun e => by
    obtain ⟨_, cs, t, fz, hk⟩ := ht.owner e.symm
    rw [hk] at ho; cases ho; cases hoc)).trans ho⟩

theorem grown_cell (W : World) (b j : Nat) (u : Value) : W.grownBy (W.setCell ⟨b, j, none⟩ u) (some b) :=
  ⟨rfl, rfl, rfl, (KeepsWalks.setCell W _ u).size, fun k _ hk => Below.heap_setCell _ _ _ k (fun e => hk (by rw [e]))⟩
theorem Txt.not_own {W : World} {B b : Nat} {v : Value} {l : List (List UInt8)} (h : Txt W B v l) (hb : b < B) : some b ≠ v.ownBlock := fun e => by have := (h.owner e.symm).1; omega
theorem found_bump {W : World} {B b : Nat} {a : List (List UInt8) × Nat} {v : Value} (hv : W.heap[b]? = some (.cells #[v, .int .i64 a.2] 68 (0, 0))) (ht : Txt W B v a.1) (hB : B ≤ W.heap.size) (hb : b < B) :
    FoundAt (W.setCell ⟨b, 1, none⟩ (.int .i64 (a.2 + 1))) B b (a.1, a.2 + 1) ∧ Part B b W (W.setCell ⟨b, 1, none⟩ (.int .i64 (a.2 + 1))) :=
  ⟨⟨v, Lib.heap_setCell_same (i := 1) hv _, ht.kept (grown_cell _ _ _ _) (.inl (ht.not_own hb))⟩, Part.of_grown (grown_cell _ _ _ _) hB hb⟩
theorem found_row {W : World} {B b : Nat} {n : Nat} {l : List (List UInt8)} {v u : Value} (hv : W.heap[b]? = some (.cells #[v, .int .i64 n] 68 (0, 0))) (ht : Txt W B u l) (hB : B ≤ W.heap.size) (hb : b < B) :
    FoundAt (W.setCell ⟨b, 0, none⟩ u) B b (l, n) ∧ Part B b W (W.setCell ⟨b, 0, none⟩ u) :=
  ⟨⟨u, Lib.heap_setCell_same (i := 0) hv _, ht.kept (grown_cell _ _ _ _) (.inl (ht.not_own hb))⟩, Part.of_grown (grown_cell _ _ _ _) hB hb⟩
theorem below_cells (w1 : World) (o : Obj) {w : World} (hb : Below w.heap.size w w1) : Below w.heap.size w (w1.alloc o) := hb.alloc hb.size o

set_option maxHeartbeats 2000000 in
set_option maxRecDepth 100000 in
theorem part_any (B b : Nat) (a : List (List UInt8) × Nat) (s : ByteArray) (hs : s.size ≤ 140737488351232) (w : World) (hB : B ≤ w.heap.size) (hbB : b < B) (hF : FoundAt w B b a) (hlen : a.1.length < 4398046511104) (hg : a.2 < 4398046511104) :
    Calls Tryd.prog 44 #[.pointer (some ⟨b, 0, none⟩), .string s] w fun e w' => e = .returned (.tuple #[]) ∧ FoundAt w' B b (found a s.data.toList) ∧ Part B b w w' := by
  unfold found
  by_cases h0 : s.data.toList = []
  · rw [if_pos h0]
    have hs0 : s = ⟨#[]⟩ := by apply ByteArray.ext; apply Array.ext'; exact h0
    subst hs0
    go_enter Tryd.func44, Tryd.ntmps44
    go_wp2
    exact bodyPost_ret (results_none rfl _ _ _) rfl ⟨rfl, hF, Part.refl _ _ _⟩
  · rw [if_neg h0]
    have hne : s.toList.isEmpty = false := by
      rw [ByteArray.toList_eq]
      cases h : s.data.toList with
      | nil => exact absurd h h0
      | cons _ _ => rfl
    have hget := Lib.hid (fun w => Get_any s hs w)
    have hends := get_ends s.data.toList
    obtain ⟨S, hS⟩ : ∃ S, S = getS s.data.toList := ⟨_, rfl⟩
    rw [← hS] at hget hends ⊢
    rw [length_size]
    clear hS h0
    by_cases h1 : 1300 < s.size
    · rw [if_pos (.inl h1)]
      have h1' : decide ((1300 : Int) < s.size) = true := by simp; omega
      go_enter Tryd.func44, Tryd.ntmps44
      go_wp2_with fail
      refine (hget.out _).mono ?_
      rintro e w1 ⟨rfl, hb1⟩
      unfold getV
      have hF1 := (hF.below hb1).below ((Below.refl _ w1).alloc (Nat.le_refl _) (.cells #[.int .i64 S.2.1, .int .i64 S.2.2] 27))
      obtain ⟨v, hv, ht⟩ := hF1
      have c1 := cell2_1 hv
      have f1 := frozen2 hv 1
      go_wp2
      have hB1 : B ≤ (w1.alloc (.cells #[.int .i64 S.2.1, .int .i64 S.2.2] 27)).heap.size := Nat.le_trans hB (below_cells w1 _ hb1).size
      obtain ⟨k1, k2⟩ := found_bump hv ht hB1 hbB
      exact bodyPost_ret (results_none rfl _ _ _) rfl ⟨rfl, k1, (Part.of_below (below_cells w1 _ hb1) hB).trans k2⟩
    · have h1' : decide ((1300 : Int) < s.size) = false := by simp; omega
      by_cases h2 : S.2.1 = 0
      · rw [if_neg (by omega)]
        have h2' : ((S.2.1 : Int) == 0) = true := by rw [h2]; rfl
        clear h2
        go_enter Tryd.func44, Tryd.ntmps44
        go_wp2_with fail
        refine (hget.out _).mono ?_
        rintro e w1 ⟨rfl, hb1⟩
        unfold getV
        have hF1 := (hF.below hb1).below ((Below.refl _ w1).alloc (Nat.le_refl _) (.cells #[.int .i64 S.2.1, .int .i64 S.2.2] 27))
        obtain ⟨v, hv, ht⟩ := hF1
        have c1 := cell2_0 hv
        have f1 := frozen2 hv 0
        have hB1 : B ≤ (w1.alloc (.cells #[.int .i64 S.2.1, .int .i64 S.2.2] 27)).heap.size := Nat.le_trans hB (below_cells w1 _ hb1).size
        go_wp2_with (at_builtin; refine app_str (n := S.1) rfl rfl B rfl ht (by simp [go_sem]) hlen hB1 ?_; intro g cap w2 ht2 hb2 hg2 hgr; have hv2 := (hb2.block b hbB).trans hv; have c2 := cell2_0 hv2; have f2 := frozen2 hv2 0)
        all_goals go_wp2
        obtain ⟨k1, k2⟩ := found_row hv2 ht2 (Nat.le_trans hB1 hb2.size) hbB
        exact bodyPost_end (results_none rfl _ _ _) rfl ⟨rfl, k1, ((Part.of_below (below_cells w1 _ hb1) hB).trans (Part.of_row ht hgr hB1)).trans k2⟩
      · rw [if_pos (by omega)]
        have h2' : ((S.2.1 : Int) == 0) = false := by simp; omega
        go_enter Tryd.func44, Tryd.ntmps44
        go_wp2_with fail
        refine (hget.out _).mono ?_
        rintro e w1 ⟨rfl, hb1⟩
        unfold getV
        have hF1 := (hF.below hb1).below ((Below.refl _ w1).alloc (Nat.le_refl _) (.cells #[.int .i64 S.2.1, .int .i64 S.2.2] 27))
        obtain ⟨v, hv, ht⟩ := hF1
        have c1 := cell2_1 hv
        have f1 := frozen2 hv 1
        go_wp2
        have hB1 : B ≤ (w1.alloc (.cells #[.int .i64 S.2.1, .int .i64 S.2.2] 27)).heap.size := Nat.le_trans hB (below_cells w1 _ hb1).size
        obtain ⟨k1, k2⟩ := found_bump hv ht hB1 hbB
        exact bodyPost_ret (results_none rfl _ _ _) rfl ⟨rfl, k1, (Part.of_below (below_cells w1 _ hb1) hB).trans k2⟩
end Go.Proofs.YtcpahelmaejjeaaDoor
