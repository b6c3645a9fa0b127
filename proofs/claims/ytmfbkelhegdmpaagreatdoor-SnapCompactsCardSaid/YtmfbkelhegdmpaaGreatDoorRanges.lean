/- Texts of small laws, one behind the other. -/
import Derived.Test.YtmfbkelhegdmpaaGreatDoorProg
import Derived.RangeFuncNested
import Derived.RangeFuncBound
import Derived.RangeFuncLeaves
import Derived.StillTailTactics
import Derived.OrdersIn
import Derived.OrdersHeld
import Derived.TacticsIn
import Derived.RangeFuncCalls
/- 'for x := range seq' where the iterator keeps its state in a cell of its own (a captured variable): its contract, and the law of the statement. -/
namespace Go.Proofs.YtmfbkelhegdmpaaGreatDoor
open Go.RowKit

/-- Between two rounds the iterator lays new blocks and stores into its own cell (block c, tag t) alone. -/
def Turned (c t : Nat) (A B : World) : Prop := A.grownBy B (some c) ∧ ∃ v, B.heap[c]? = some (.cells #[v] t (0, 0))
def Abide {β : Type} (c t : Nat) (J : β → World → Prop) : Prop := ∀ s A B, J s A → Turned c t A B → J s B

/-- The iterator's contract: just the elements of L come, in their order. -/
def SeqCell {α : Type} (F : Fence) (n : Nat) (P : Program) (g : Nat) (lb : Array Value) (encs : α → Array Value) (c t : Nat) (K : World → Prop) (v0 : Value) (L : List α) : Prop :=
  ∀ (l : Nat) (J Jx : List α → World → Prop) (W : World), Abide c t J → Abide c t Jx → (∀ pre W, J pre W → K W) → W.heap[c]? = some (.cells #[v0] t (0, 0)) →
    (∀ pre x post W1, L = pre ++ x :: post → J pre W1 → YieldAt F (n - 1) P l (encs x) W1 fun e W' =>
      (e = .returned (.bool true) ∧ J (pre ++ [x]) W' ∧ W'.heap[c]? = W1.heap[c]?) ∨ (e = .returned (.bool false) ∧ Jx (pre ++ [x]) W')) →
    J [] W →
    CallsIn F n P g (#[.func (.yield l) #[] #[]] ++ lb) W fun e W' => (∃ v, e = .returned v) ∧ (J L W' ∨ ∃ pre, pre <+: L ∧ Jx pre W')

/-- The caller's word abides what the iterator and the loop's own records do. -/
def Mine {β : Type} (c t B : Nat) (I : β → World → Prop) : Prop :=
  Abide c t I ∧ ∀ s A A' k, I s A → A.grownBy A' (some k) → B ≤ k → (∃ o : Obj, A.heap[k]? = some o ∧ o.isCells = false) → I s A'

def bodyEnds {α : Type} (B c : Nat) (I : List α → World → Prop) (Ix : Code → List α → World → Prop) (xs : List α) (W : World) : Exit → Act → World → Prop
  | .normal, _, W' => KeepsFrom B W W' ∧ W'.heap[c]? = W.heap[c]? ∧ I xs W'
  | .ret, _, W' => KeepsFrom B W W' ∧ Ix .ret xs W'
  | .exit id, _, W' => KeepsFrom B W W' ∧ Ix (.exit id) xs W'
  | .goto j, _, W' => KeepsFrom B W W' ∧ Ix (.goto j) xs W'
  | .panic _, _, _ => False
  | .outgrown, _, _ => False

theorem range_cell {F : Fence} {n : Nat} {P : Program} {α : Type} {g : Operand} {ps : Array Tmp} {assign body : Code} {Q : Exit → Act → World → Prop} {a : Act} {w : World} {encs : α → Array Value} {L : List α}
    (hro : F.round = none) (h1 : 1 ≤ n) {gf : Nat} {lb : Array Value} (hg : a.eval g = .func (.func gf) #[] lb) (hFg : F.fn gf) (eg : ∀ args w, (callFunc gf args).run P w = .ok (.enter gf args) w)
    {c t : Nat} {K : World → Prop} {v0 : Value} (hseq : SeqCell F (n - 1) P gf lb encs c t K v0 L) (hc : w.heap[c]? = some (.cells #[v0] t (0, 0))) (hps : ∀ x, (encs x).size = ps.size)
    (I : List α → World → Prop) (Ix : Code → List α → World → Prop) (hI : Mine c t w.heap.size I) (hIK : ∀ pre W, I pre W → K W) (hIx : ∀ j, Mine c t w.heap.size (Ix j))
    (h0 : ∀ W, Below w.heap.size w W → I [] W) (a₁ : α → Act)
    (hassign : ∀ (l : Nat) (x : α) (W : World) (K : Act → World → Prop), K (a₁ x) W →
      assign.wpIn (F.inRound l) (n - 1 - 1) P (Exit.then K (fun _ _ _ => False)) { tmps := (ps.zip (encs x)).foldl (fun t (p, v) => t.setIfInBounds p v) a.tmps, defers := [] } W)
    (hbody : ∀ (l : Nat) (pre : List α) (x : α) (post : List α) (W : World), L = pre ++ x :: post → I pre W → body.wpIn (F.inRound l) (n - 1 - 1) P (bodyEnds w.heap.size c I Ix (pre ++ [x]) W) (a₁ x) W)
    (hdone : ∀ (D : Nat) (W : World), w.heap.size ≤ D → I L W → W.heap[D]? = some (.deferred (some [])) → Q .normal { a with defers := { target := .collected D, args := #[] } :: a.defers } W)
    (hstop : ∀ (D : Nat) (j : Code) (pre : List α) (W : World), w.heap.size ≤ D → pre <+: L → Ix j pre W → W.heap[D]? = some (.deferred (some [])) → j.wpIn F n P Q { a with defers := { target := .collected D, args := #[] } :: a.defers } W) :
    (Code.rangeFunc g ps assign body).wpIn F n P Q a w := by
  have hcw : c < w.heap.size := (Array.getElem?_eq_some_iff.1 hc).1
  refine wpIn_rangeFunc fun fn hfn => ?_
  rw [hro]
  obtain ⟨R, hR⟩ : ∃ R : LoopState → Option Code → Loop, R = fun st pe => { state := st, pending := pe, fn, tmps := a.tmps, params := ps, assign, body, defers := w.heap.size } := ⟨_, rfl⟩
  obtain ⟨W1, hW1⟩ : ∃ W1, (w.alloc (.deferred (some []))).alloc (.loop (R .ready none)) = W1 := ⟨_, rfl⟩
  have hL : W1.heap[w.heap.size + 1]? = some (.loop (R .ready none)) := by
    rw [← hW1]; have := World.alloc_heap_new (w.alloc (.deferred (some []))) (.loop (R .ready none)); rwa [World.size_alloc] at this
  have hK : W1.heap[w.heap.size]? = some (.deferred (some [])) := by
    rw [← hW1]; exact (Below.heap_alloc _ _ _ (by simp)).trans (World.alloc_heap_new w _)
  have hb1 : Below w.heap.size w W1 := by rw [← hW1]; exact ((Below.refl _ w).alloc (Nat.le_refl _) _).alloc (by simp) _
  have hput : ∀ {s : List α} {I : List α → World → Prop} {W : World} {r : LoopState → Option Code → Loop} {st pe st' pe'}, Mine c t w.heap.size I → I s W → W.heap[w.heap.size + 1]? = some (.loop (r st pe)) → I s (W.putObj (w.heap.size + 1) (.loop (r st' pe'))) :=
    fun hm hi hl => hm.2 _ _ _ _ hi (grownBy_putObj' _ _ _) (by omega) ⟨_, hl, rfl⟩
  have hrun : (Instr.enterLoop fn a.tmps ps assign body none).run P w = .ok (w.heap.size + 1, [{ target := .collected w.heap.size, args := #[] }]) W1 := by rw [← hW1, hR]; exact run_enterLoop_outer _ _ _ _ _
  refine ⟨w.heap.size + 1, [{ target := .collected w.heap.size, args := #[] }], W1, { target := .fn (.func gf) lb, args := #[.func (.yield (w.heap.size + 1)) #[] #[]] }, W1, gf, #[.func (.yield (w.heap.size + 1)) #[] #[]] ++ lb, W1,
    hrun, by simp only [resolve, hg]; simp [go_sem], fun f' hf' => by simp [Target.leads] at hf'; subst hf'; exact hFg, by simp [invoke, go_sem, eg], fun _ => h1, ?_⟩
  have turn : ∀ {A B : World} {k : Nat} {o : Obj}, Turned c t A B → A.heap[k]? = some o → k ≠ c → B.heap[k]? = some o := fun hT hk hne =>
    (hT.1.block _ (Array.getElem?_eq_some_iff.1 hk).1 (fun e => hne (by cases e; rfl))).trans hk
  refine (hseq (w.heap.size + 1)
    (fun pre W => I pre W ∧ W.heap[w.heap.size + 1]? = some (.loop (R .ready none)) ∧ W.heap[w.heap.size]? = some (.deferred (some [])))
    (fun pre W => ∃ j, Ix j pre W ∧ W.heap[w.heap.size + 1]? = some (.loop (R .done (some j))) ∧ W.heap[w.heap.size]? = some (.deferred (some [])))
    W1
    (fun s A B hs hT => ⟨hI.1 s A B hs.1 hT, turn hT hs.2.1 (by omega), turn hT hs.2.2 (by omega)⟩)
    (fun s A B hs hT => by obtain ⟨j, hj, h2, h3⟩ := hs; exact ⟨j, (hIx j).1 s A B hj hT, turn hT h2 (by omega), turn hT h3 (by omega)⟩)
    (fun pre W h => hIK pre W h.1) ((hb1.block c hcw).trans hc) ?_ ⟨h0 _ hb1, hL, hK⟩).mono ?_
  · rintro pre x post W hx ⟨hi, hl, hk⟩
    have hlt : w.heap.size + 1 < W.heap.size := (Array.getElem?_eq_some_iff.1 hl).1
    have hy := run_yield (P := P) (args := encs x) hl (by rw [hR]; exact hps x)
    rw [hR] at hy
    refine ⟨fn, _, assign, body, hy, roundIn_of_wpIn hfn (hassign _ x W _ ⟨_, run_beginRound hl (by rw [hR]), ?_⟩)⟩
    have hl2 : (W.putObj (w.heap.size + 1) (.loop { R .ready none with state := .busy })).heap[w.heap.size + 1]? = some (.loop { R .ready none with state := .busy }) := World.putObj_heap_same hlt
    have hk2 : (W.putObj (w.heap.size + 1) (.loop { R .ready none with state := .busy })).heap[w.heap.size]? = some (.deferred (some [])) := (World.putObj_heap_other (by omega)).trans hk
    have hc2 : (W.putObj (w.heap.size + 1) (.loop { R .ready none with state := .busy })).heap[c]? = W.heap[c]? := World.putObj_heap_other (by omega)
    have hi2 : I pre (W.putObj (w.heap.size + 1) (.loop { R .ready none with state := .busy })) := hI.2 _ _ _ _ hi (grownBy_putObj' _ _ _) (by omega) ⟨_, hl, rfl⟩
    refine wpIn_mono (hbody _ pre x post _ hx hi2) ?_
    have back : ∀ (jump : Option Code) (W3 : World), KeepsFrom w.heap.size (W.putObj (w.heap.size + 1) (.loop { R .ready none with state := .busy })) W3 →
        (Instr.endRound (w.heap.size + 1) jump).run P W3 = .ok (.bool jump.isNone) (W3.putObj (w.heap.size + 1) (.loop (R (if jump.isNone then .ready else .done) jump))) ∧
        W3.heap[w.heap.size + 1]? = some (.loop { R .ready none with state := .busy }) ∧
        (W3.putObj (w.heap.size + 1) (.loop (R (if jump.isNone then .ready else .done) jump))).heap[w.heap.size + 1]? = some (.loop (R (if jump.isNone then .ready else .done) jump)) ∧
        (W3.putObj (w.heap.size + 1) (.loop (R (if jump.isNone then .ready else .done) jump))).heap[w.heap.size]? = some (.deferred (some [])) := fun jump W3 hk3 => by
      have hl3 := hk3.same _ _ (by omega) hl2 rfl
      have := run_endRound (P := P) jump hl3
      rw [hR] at this ⊢
      exact ⟨this, by rw [hR] at hl3; exact hl3, World.putObj_heap_same (Array.getElem?_eq_some_iff.1 hl3).1, (World.putObj_heap_other (by omega)).trans (hk3.same _ _ (by omega) hk2 rfl)⟩
    have leave : ∀ (j : Code) (W3 : World), KeepsFrom w.heap.size (W.putObj (w.heap.size + 1) (.loop { R .ready none with state := .busy })) W3 → Ix j (pre ++ [x]) W3 →
        ∃ v w', (Instr.endRound (w.heap.size + 1) (some j)).run P W3 = .ok v w' ∧ ((Ending.returned v = .returned (.bool true) ∧ (I (pre ++ [x]) w' ∧ w'.heap[w.heap.size + 1]? = some (.loop (R .ready none)) ∧ w'.heap[w.heap.size]? = some (.deferred (some []))) ∧ w'.heap[c]? = W.heap[c]?) ∨
          (Ending.returned v = .returned (.bool false) ∧ ∃ j, Ix j (pre ++ [x]) w' ∧ w'.heap[w.heap.size + 1]? = some (.loop (R .done (some j))) ∧ w'.heap[w.heap.size]? = some (.deferred (some [])))) := fun j W3 hk3 hj => by
      obtain ⟨hr, hl3, hl4, hk4⟩ := back (some j) W3 hk3
      exact ⟨_, _, hr, .inr ⟨rfl, j, (hIx j).2 _ _ _ _ hj (grownBy_putObj' _ _ _) (by omega) ⟨_, hl3, rfl⟩, hl4, hk4⟩⟩
    rintro e a3 W3 hp
    cases e with
    | normal =>
      obtain ⟨hk3, hc3, hi3⟩ := hp
      obtain ⟨hr, hl3, hl4, hk4⟩ := back none W3 hk3
      exact ⟨_, _, hr, .inl ⟨rfl, ⟨hI.2 _ _ _ _ hi3 (grownBy_putObj' _ _ _) (by omega) ⟨_, hl3, rfl⟩, hl4, hk4⟩, (World.putObj_heap_other (by omega)).trans (hc3.trans hc2)⟩⟩
    | ret => exact leave .ret W3 hp.1 hp.2
    | exit id => exact leave (.exit id) W3 hp.1 hp.2
    | goto j => exact leave (.goto j) W3 hp.1 hp.2
    | panic _ => exact hp.elim
    | outgrown => exact hp.elim
  · rintro e W2 ⟨⟨v, rfl⟩, (⟨hi, hl, hk⟩ | ⟨pre, hpre, j, hi, hl, hk⟩)⟩
    · have hend := run_endLoop (P := P) hl (by rw [hR]; simp)
      rw [hR] at hend
      exact ⟨none, _, hend, hdone _ _ (Nat.le_refl _) (hI.2 _ _ _ _ hi (grownBy_putObj' _ _ _) (by omega) ⟨_, hl, rfl⟩) ((World.putObj_heap_other (by omega)).trans hk)⟩
    · have hend := run_endLoop (P := P) hl (by rw [hR]; simp)
      rw [hR] at hend
      exact ⟨some j, _, hend, hstop _ j pre _ (Nat.le_refl _) hpre ((hIx j).2 _ _ _ _ hi (grownBy_putObj' _ _ _) (by omega) ⟨_, hl, rfl⟩) ((World.putObj_heap_other (by omega)).trans hk)⟩
end Go.Proofs.YtmfbkelhegdmpaaGreatDoor
/- 'for x := range seq' where the iterator keeps its state in a cell of its own and the loop's variables are boxed: the law of the statement. -/
namespace Go.Proofs.YtmfbkelhegdmpaaGreatDoor
open Go.RowKit

theorem range_cellA {F : Fence} {n : Nat} {P : Program} {α : Type} {g : Operand} {ps : Array Tmp} {assign body : Code} {Q : Exit → Act → World → Prop} {a : Act} {w : World} {encs : α → Array Value} {L : List α}
    (hro : F.round = none) (h1 : 1 ≤ n) {gf : Nat} {lb : Array Value} (hg : a.eval g = .func (.func gf) #[] lb) (hFg : F.fn gf) (eg : ∀ args w, (callFunc gf args).run P w = .ok (.enter gf args) w)
    {c t : Nat} {K : World → Prop} {v0 : Value} (hseq : SeqCell F (n - 1) P gf lb encs c t K v0 L) (hc : w.heap[c]? = some (.cells #[v0] t (0, 0))) (hps : ∀ x, (encs x).size = ps.size)
    (I : List α → World → Prop) (Ix : Code → List α → World → Prop) (hI : Mine c t w.heap.size I) (hIK : ∀ pre W, I pre W → K W) (hIx : ∀ j, Mine c t w.heap.size (Ix j))
    (h0 : ∀ W, Below w.heap.size w W → I [] W)
    (A : List α → α → Act → World → Prop)
    (hA : ∀ pre x a₁ W W' k, A pre x a₁ W → W.grownBy W' (some k) → w.heap.size ≤ k → (∃ o : Obj, W.heap[k]? = some o ∧ o.isCells = false) → A pre x a₁ W')
    (hassign : ∀ (l : Nat) (pre : List α) (x : α) (post : List α) (W : World) (K : Act → World → Prop), L = pre ++ x :: post → I pre W → w.heap.size ≤ W.heap.size → (∀ a₁ W₁, A pre x a₁ W₁ → W.grownBy W₁ none → K a₁ W₁) →
      assign.wpIn (F.inRound l) (n - 1 - 1) P (Exit.then K (fun _ _ _ => False)) { tmps := (ps.zip (encs x)).foldl (fun t (p, v) => t.setIfInBounds p v) a.tmps, defers := [] } W)
    (hbody : ∀ (l : Nat) (pre : List α) (x : α) (post : List α) (a₁ : Act) (W : World), L = pre ++ x :: post → A pre x a₁ W → body.wpIn (F.inRound l) (n - 1 - 1) P (bodyEnds w.heap.size c I Ix (pre ++ [x]) W) a₁ W)
    (hdone : ∀ (D : Nat) (W : World), w.heap.size ≤ D → I L W → W.heap[D]? = some (.deferred (some [])) → Q .normal { a with defers := { target := .collected D, args := #[] } :: a.defers } W)
    (hstop : ∀ (D : Nat) (j : Code) (pre : List α) (W : World), w.heap.size ≤ D → pre <+: L → Ix j pre W → W.heap[D]? = some (.deferred (some [])) → j.wpIn F n P Q { a with defers := { target := .collected D, args := #[] } :: a.defers } W) :
    (Code.rangeFunc g ps assign body).wpIn F n P Q a w := by
  have hcw : c < w.heap.size := (Array.getElem?_eq_some_iff.1 hc).1
  refine wpIn_rangeFunc fun fn hfn => ?_
  rw [hro]
  obtain ⟨R, hR⟩ : ∃ R : LoopState → Option Code → Loop, R = fun st pe => { state := st, pending := pe, fn, tmps := a.tmps, params := ps, assign, body, defers := w.heap.size } := ⟨_, rfl⟩
  obtain ⟨W1, hW1⟩ : ∃ W1, (w.alloc (.deferred (some []))).alloc (.loop (R .ready none)) = W1 := ⟨_, rfl⟩
  have hL : W1.heap[w.heap.size + 1]? = some (.loop (R .ready none)) := by
    rw [← hW1]; have := World.alloc_heap_new (w.alloc (.deferred (some []))) (.loop (R .ready none)); rwa [World.size_alloc] at this
  have hK : W1.heap[w.heap.size]? = some (.deferred (some [])) := by
    rw [← hW1]; exact (Below.heap_alloc _ _ _ (by simp)).trans (World.alloc_heap_new w _)
  have hb1 : Below w.heap.size w W1 := by rw [← hW1]; exact ((Below.refl _ w).alloc (Nat.le_refl _) _).alloc (by simp) _
  have hput : ∀ {s : List α} {I : List α → World → Prop} {W : World} {r : LoopState → Option Code → Loop} {st pe st' pe'}, Mine c t w.heap.size I → I s W → W.heap[w.heap.size + 1]? = some (.loop (r st pe)) → I s (W.putObj (w.heap.size + 1) (.loop (r st' pe'))) :=
    fun hm hi hl => hm.2 _ _ _ _ hi (grownBy_putObj' _ _ _) (by omega) ⟨_, hl, rfl⟩
  have hrun : (Instr.enterLoop fn a.tmps ps assign body none).run P w = .ok (w.heap.size + 1, [{ target := .collected w.heap.size, args := #[] }]) W1 := by rw [← hW1, hR]; exact run_enterLoop_outer _ _ _ _ _
  refine ⟨w.heap.size + 1, [{ target := .collected w.heap.size, args := #[] }], W1, { target := .fn (.func gf) lb, args := #[.func (.yield (w.heap.size + 1)) #[] #[]] }, W1, gf, #[.func (.yield (w.heap.size + 1)) #[] #[]] ++ lb, W1,
    hrun, by simp only [resolve, hg]; simp [go_sem], fun f' hf' => by simp [Target.leads] at hf'; subst hf'; exact hFg, by simp [invoke, go_sem, eg], fun _ => h1, ?_⟩
  have turn : ∀ {A B : World} {k : Nat} {o : Obj}, Turned c t A B → A.heap[k]? = some o → k ≠ c → B.heap[k]? = some o := fun hT hk hne =>
    (hT.1.block _ (Array.getElem?_eq_some_iff.1 hk).1 (fun e => hne (by cases e; rfl))).trans hk
  refine (hseq (w.heap.size + 1)
    (fun pre W => I pre W ∧ W.heap[w.heap.size + 1]? = some (.loop (R .ready none)) ∧ W.heap[w.heap.size]? = some (.deferred (some [])))
    (fun pre W => ∃ j, Ix j pre W ∧ W.heap[w.heap.size + 1]? = some (.loop (R .done (some j))) ∧ W.heap[w.heap.size]? = some (.deferred (some [])))
    W1
    (fun s A B hs hT => ⟨hI.1 s A B hs.1 hT, turn hT hs.2.1 (by omega), turn hT hs.2.2 (by omega)⟩)
    (fun s A B hs hT => by obtain ⟨j, hj, h2, h3⟩ := hs; exact ⟨j, (hIx j).1 s A B hj hT, turn hT h2 (by omega), turn hT h3 (by omega)⟩)
    (fun pre W h => hIK pre W h.1) ((hb1.block c hcw).trans hc) ?_ ⟨h0 _ hb1, hL, hK⟩).mono ?_
  · rintro pre x post W0 hx ⟨hi0, hl0, hk0⟩
    have hy := run_yield (P := P) (args := encs x) hl0 (by rw [hR]; exact hps x)
    rw [hR] at hy
    refine ⟨fn, _, assign, body, hy, roundIn_of_wpIn hfn (hassign _ pre x post W0 _ hx hi0 (by have := (Array.getElem?_eq_some_iff.1 hk0).1; omega) fun a₁ W hA1 hgr => ?_)⟩
    have hl := (hgr.block _ (Array.getElem?_eq_some_iff.1 hl0).1 (by simp)).trans hl0
    have hk := (hgr.block _ (Array.getElem?_eq_some_iff.1 hk0).1 (by simp)).trans hk0
    have hlt : w.heap.size + 1 < W.heap.size := (Array.getElem?_eq_some_iff.1 hl).1
    refine ⟨_, run_beginRound hl (by rw [hR]), ?_⟩
    have hc0 : W.heap[c]? = W0.heap[c]? := hgr.block _ (by have := (Array.getElem?_eq_some_iff.1 hk0).1; omega) (by simp)
    have hl2 : (W.putObj (w.heap.size + 1) (.loop { R .ready none with state := .busy })).heap[w.heap.size + 1]? = some (.loop { R .ready none with state := .busy }) := World.putObj_heap_same hlt
    have hk2 : (W.putObj (w.heap.size + 1) (.loop { R .ready none with state := .busy })).heap[w.heap.size]? = some (.deferred (some [])) := (World.putObj_heap_other (by omega)).trans hk
    have hc2 : (W.putObj (w.heap.size + 1) (.loop { R .ready none with state := .busy })).heap[c]? = W.heap[c]? := World.putObj_heap_other (by omega)
    have hi2 : A pre x a₁ (W.putObj (w.heap.size + 1) (.loop { R .ready none with state := .busy })) := hA _ _ _ _ _ _ hA1 (grownBy_putObj' _ _ _) (by omega) ⟨_, hl, rfl⟩
    refine wpIn_mono (hbody _ pre x post _ _ hx hi2) ?_
    have back : ∀ (jump : Option Code) (W3 : World), KeepsFrom w.heap.size (W.putObj (w.heap.size + 1) (.loop { R .ready none with state := .busy })) W3 →
        (Instr.endRound (w.heap.size + 1) jump).run P W3 = .ok (.bool jump.isNone) (W3.putObj (w.heap.size + 1) (.loop (R (if jump.isNone then .ready else .done) jump))) ∧
        W3.heap[w.heap.size + 1]? = some (.loop { R .ready none with state := .busy }) ∧
        (W3.putObj (w.heap.size + 1) (.loop (R (if jump.isNone then .ready else .done) jump))).heap[w.heap.size + 1]? = some (.loop (R (if jump.isNone then .ready else .done) jump)) ∧
        (W3.putObj (w.heap.size + 1) (.loop (R (if jump.isNone then .ready else .done) jump))).heap[w.heap.size]? = some (.deferred (some [])) := fun jump W3 hk3 => by
      have hl3 := hk3.same _ _ (by omega) hl2 rfl
      have := run_endRound (P := P) jump hl3
      rw [hR] at this ⊢
      exact ⟨this, by rw [hR] at hl3; exact hl3, World.putObj_heap_same (Array.getElem?_eq_some_iff.1 hl3).1, (World.putObj_heap_other (by omega)).trans (hk3.same _ _ (by omega) hk2 rfl)⟩
    have leave : ∀ (j : Code) (W3 : World), KeepsFrom w.heap.size (W.putObj (w.heap.size + 1) (.loop { R .ready none with state := .busy })) W3 → Ix j (pre ++ [x]) W3 →
        ∃ v w', (Instr.endRound (w.heap.size + 1) (some j)).run P W3 = .ok v w' ∧ ((Ending.returned v = .returned (.bool true) ∧ (I (pre ++ [x]) w' ∧ w'.heap[w.heap.size + 1]? = some (.loop (R .ready none)) ∧ w'.heap[w.heap.size]? = some (.deferred (some []))) ∧ w'.heap[c]? = W0.heap[c]?) ∨
          (Ending.returned v = .returned (.bool false) ∧ ∃ j, Ix j (pre ++ [x]) w' ∧ w'.heap[w.heap.size + 1]? = some (.loop (R .done (some j))) ∧ w'.heap[w.heap.size]? = some (.deferred (some [])))) := fun j W3 hk3 hj => by
      obtain ⟨hr, hl3, hl4, hk4⟩ := back (some j) W3 hk3
      exact ⟨_, _, hr, .inr ⟨rfl, j, (hIx j).2 _ _ _ _ hj (grownBy_putObj' _ _ _) (by omega) ⟨_, hl3, rfl⟩, hl4, hk4⟩⟩
    rintro e a3 W3 hp
    cases e with
    | normal =>
      obtain ⟨hk3, hc3, hi3⟩ := hp
      obtain ⟨hr, hl3, hl4, hk4⟩ := back none W3 hk3
      exact ⟨_, _, hr, .inl ⟨rfl, ⟨hI.2 _ _ _ _ hi3 (grownBy_putObj' _ _ _) (by omega) ⟨_, hl3, rfl⟩, hl4, hk4⟩, (World.putObj_heap_other (by omega)).trans ((hc3.trans hc2).trans hc0)⟩⟩
    | ret => exact leave .ret W3 hp.1 hp.2
    | exit id => exact leave (.exit id) W3 hp.1 hp.2
    | goto j => exact leave (.goto j) W3 hp.1 hp.2
    | panic _ => exact hp.elim
    | outgrown => exact hp.elim
  · rintro e W2 ⟨⟨v, rfl⟩, (⟨hi, hl, hk⟩ | ⟨pre, hpre, j, hi, hl, hk⟩)⟩
    · have hend := run_endLoop (P := P) hl (by rw [hR]; simp)
      rw [hR] at hend
      exact ⟨none, _, hend, hdone _ _ (Nat.le_refl _) (hI.2 _ _ _ _ hi (grownBy_putObj' _ _ _) (by omega) ⟨_, hl, rfl⟩) ((World.putObj_heap_other (by omega)).trans hk)⟩
    · have hend := run_endLoop (P := P) hl (by rw [hR]; simp)
      rw [hR] at hend
      exact ⟨some j, _, hend, hstop _ j pre _ (Nat.le_refl _) hpre ((hIx j).2 _ _ _ _ hi (grownBy_putObj' _ _ _) (by omega) ⟨_, hl, rfl⟩) ((World.putObj_heap_other (by omega)).trans hk)⟩
end Go.Proofs.YtmfbkelhegdmpaaGreatDoor
/- A region that draws its order within the round of a loop over an iterator: it may be walked by the laws that stand outside of fences, if it ends as it should. -/
namespace Go.Proofs.YtmfbkelhegdmpaaGreatDoor
open Go.RowKit

/-- It comes to its end. -/
def Only (K : Act → World → Prop) (e : Exit) (a : Act) (w : World) : Prop := e = .normal ∧ K a w
theorem wpIn_of_wp {l n : Nat} {P : Program} {o : Oper} {a : Act} {w : World} {K K1 K2 : Act → World → Prop} {Q : Exit → Act → World → Prop} (hd : ∀ c, o.op ≠ .defer c) (h : ∀ a w, K1 a w → K2 a w) (hh : o.wp P a w K1 (Only K)) :
    o.wpIn (Fence.wide.inRound l) n P a w K2 Q := by
  unfold Oper.wp at hh
  unfold Oper.wpIn
  refine ⟨fun _ _ => trivial, ?_⟩
  rw [Oper.semAt_eq _ _ _ hd]
  generalize (execOp a.eval o).run P w = r at *
  cases r with
  | ok x w' =>
    cases x <;> simp only [Oper.upon] at hh <;> simp only [Oper.uponIn]
    case enter f args =>
      refine ⟨fun h => (by cases h), CallsIn.inRound l (CallsIn.mono (callsIn_wide.2 hh) fun e w'' he => ?_)⟩
      cases e with
      | returned v => exact h _ _ he
      | panicked c => exact absurd he.1 (by simp)
      | outgrown => obtain ⟨_, _, he, _⟩ := he; exact absurd he (by simp)
    case row r args => exact ⟨fun h => (by cases h), fun c cs _ => let ⟨v, w2, q, s⟩ := hh c cs; ⟨v, w2, h _ _ q, stepsIn_wide.2 s⟩⟩
    all_goals exact h _ _ hh
  | halt x w' =>
    cases x <;> simp only [Oper.upon] at hh
    exact absurd hh.1 (by simp)

def noDefers (ops : List Oper) : Bool := ops.all fun o => match o.op with | .defer _ => false | _ => true
theorem noDefers_spec {ops : Array Oper} (h : noDefers ops.toList = true) {i : Nat} {o : Oper} (hi : ops[i]? = some o) : ∀ c, o.op ≠ .defer c := by
  intro c e
  have := List.all_eq_true.1 h o (by rw [← Array.getElem?_toList] at hi; exact List.mem_of_getElem? hi)
  rw [e] at this
  cases this

section
variable {l n : Nat} {P : Program} {md : Region.Mode} {ops : Array Oper}
theorem wpOpIn_of_wpOp (hd : noDefers ops.toList = true) {i : Nat} {a : Act} {w : World} {K K1 K2 : Act → World → Prop} {Q : Exit → Act → World → Prop} (h : ∀ a w, K1 a w → K2 a w) (hh : wpOp P ops (Only K) i K1 a w) :
    wpOpIn (Fence.wide.inRound l) n P ops Q i K2 a w := by
  unfold wpOp at hh
  unfold wpOpIn
  split
  · rename_i ho; simp only [ho] at hh; exact h _ _ hh
  · rename_i o ho
    simp only [ho] at hh
    split
    · rename_i hw
      simp only [hw, if_true] at hh
      rcases hh with hh | ⟨_, _, _, he, _⟩
      · exact wpIn_of_wp (noDefers_spec hd ho) h hh
      · exact absurd he (by simp)
    · rename_i hw; simp only [hw] at hh; exact ⟨fun _ _ => trivial, h _ _ hh⟩
theorem wpAnyIn_of_any (hd : noDefers ops.toList = true) {K : Act → World → Prop} {Q : Exit → Act → World → Prop} (hQ : ∀ a w, K a w → Q .normal a w) : ∀ (f : Nat) (listed : Array Bool) (a : Act) (w : World),
    wpAny P md ops (Only K) f listed a w → wpAnyIn (Fence.wide.inRound l) n P md ops Q f listed a w
  | 0, _, _, _, h => ⟨h.1, hQ _ _ h.2.2⟩
  | f + 1, _, _, _, h => ⟨fun h0 => hQ _ _ (h.1 h0).2, fun i hi => wpOpIn_of_wpOp hd (fun a' w' h' => wpAnyIn_of_any hd hQ f _ a' w' h') (h.2 i hi)⟩
/-- The region by the laws under a condition S that holds behind every operation. -/
theorem wpIn_region_held {id : Nat} {K : Act → World → Prop} {Q : Exit → Act → World → Prop} {a : Act} {w : World} (S : World → Prop) (hd : noDefers ops.toList = true) (hm : P.follows .mixedOrders = true) (hQ : ∀ a w, K a w → Q .normal a w)
    (h : wpAnyH P .any ops (Only K) S ops.size (Array.replicate ops.size false) a w.drew) : (Code.region id ops true).wpIn (Fence.wide.inRound l) n P Q a w :=
  wpIn_region_any hm (wpAnyIn_of_any hd hQ _ _ _ _ (wpAny_of_held _ _ _ _ h))
/-- An operation that yields its value in every world that meets S is taken first. -/
theorem heldTake {K : Act → World → Prop} {S : World → Prop} (i : Nat) (v : Value) {oi : Oper} {fuel : Nat} {listed : Array Bool} {a : Act} {w : World} (hi : ops[i]? = some oi)
    (hs : Region.noSelect ops = true) (hf : Region.free md ops listed i = true) (hr : (Region.ready md ops listed).contains i = true) (hg : oi.guard = none)
    (hv : ∀ V, S V → (execOp a.eval oi).run P V = .ok (.value v) V) (hS : S w)
    (h : wpAnyH P md ops (Only K) S fuel (listed.setIfInBounds i true) (a.put oi.dst v) w) : wpAnyH P md ops (Only K) S (fuel + 1) listed a w :=
  wpAnyH_take hi hs hf hr (fun _ _ _ h => absurd h.1 (by simp)) (.inl ⟨by simp [Region.wanted, hg], hv⟩) hS h
/-- The one operation that may come up. -/
theorem heldOne {K : Act → World → Prop} {S : World → Prop} (i : Nat) {oi : Oper} {fuel : Nat} {listed : Array Bool} {a : Act} {w w' : World} (hi : ops[i]? = some oi) (hr : Region.ready md ops listed = [i]) (hg : oi.guard = none)
    (hv : (execOp a.eval oi).run P w = .ok .skip w') (hS : S w')
    (h : wpAnyH P md ops (Only K) S fuel (listed.setIfInBounds i true) (a.put oi.dst undef) w') : wpAnyH P md ops (Only K) S (fuel + 1) listed a w := by
  refine wpAnyH_all hr (by simp) fun k hk => ?_
  obtain rfl : k = i := by simpa using hk
  unfold wpOp
  rw [hi]
  have hw : Region.wanted oi (yielded ops a.tmps) = true := by simp [Region.wanted, hg]
  simp only [hw, if_true]
  refine .inl ?_
  unfold Oper.wp
  rw [hv]
  exact ⟨hS, h⟩
end
end Go.Proofs.YtmfbkelhegdmpaaGreatDoor
/- 'for x := range seq' where the iterator keeps its state in a block of its own (a record behind a pointer): its contract, which tells the block's last state, and the law of the statement. -/
namespace Go.Proofs.YtmfbkelhegdmpaaGreatDoor
open Go.RowKit

/-- Between two rounds the iterator lays new blocks and stores into its own cell (block c, tag t) alone. -/
def TurnedV (c t : Nat) (A B : World) : Prop := A.grownBy B (some c) ∧ ∃ v, B.heap[c]? = some (.cells v t (0, 0))
def AbideV {β : Type} (c t : Nat) (J : β → World → Prop) : Prop := ∀ s A B, J s A → TurnedV c t A B → J s B

/-- The iterator's contract: just the elements of L come, in their order. -/
def SeqV {α : Type} (F : Fence) (n : Nat) (P : Program) (g : Nat) (lb : Array Value) (encs : α → Array Value) (c t : Nat) (K : World → Prop) (v0 vz : Array Value) (L : List α) : Prop :=
  ∀ (l : Nat) (J Jx : List α → World → Prop) (W : World), AbideV c t J → AbideV c t Jx → (∀ pre W, J pre W → K W) → W.heap[c]? = some (.cells v0 t (0, 0)) →
    (∀ pre x post W1, L = pre ++ x :: post → J pre W1 → YieldAt F (n - 1) P l (encs x) W1 fun e W' =>
      (e = .returned (.bool true) ∧ J (pre ++ [x]) W' ∧ W'.heap[c]? = W1.heap[c]?) ∨ (e = .returned (.bool false) ∧ Jx (pre ++ [x]) W')) →
    J [] W →
    CallsIn F n P g (#[.func (.yield l) #[] #[]] ++ lb) W fun e W' => (∃ v, e = .returned v) ∧ ((J L W' ∧ W'.heap[c]? = some (.cells vz t (0, 0))) ∨ ∃ pre, pre <+: L ∧ Jx pre W')

/-- The caller's word abides what the iterator and the loop's own records do. -/
def MineV {β : Type} (c t B : Nat) (I : β → World → Prop) : Prop :=
  AbideV c t I ∧ ∀ s A A' k, I s A → A.grownBy A' (some k) → B ≤ k → (∃ o : Obj, A.heap[k]? = some o ∧ o.isCells = false) → I s A'

def bodyEndsV {α : Type} (B c : Nat) (I : List α → World → Prop) (Ix : Code → List α → World → Prop) (xs : List α) (W : World) : Exit → Act → World → Prop
  | .normal, _, W' => KeepsFrom B W W' ∧ W'.heap[c]? = W.heap[c]? ∧ I xs W'
  | .ret, _, W' => KeepsFrom B W W' ∧ Ix .ret xs W'
  | .exit id, _, W' => KeepsFrom B W W' ∧ Ix (.exit id) xs W'
  | .goto j, _, W' => KeepsFrom B W W' ∧ Ix (.goto j) xs W'
  | .panic _, _, _ => False
  | .outgrown, _, _ => False

theorem range_v {F : Fence} {n : Nat} {P : Program} {α : Type} {g : Operand} {ps : Array Tmp} {assign body : Code} {Q : Exit → Act → World → Prop} {a : Act} {w : World} {encs : α → Array Value} {L : List α}
    (hro : F.round = none) (h1 : 1 ≤ n) {gf : Nat} {lb : Array Value} (hg : a.eval g = .func (.func gf) #[] lb) (hFg : F.fn gf) (eg : ∀ args w, (callFunc gf args).run P w = .ok (.enter gf args) w)
    {c t : Nat} {K : World → Prop} {v0 vz : Array Value} (hseq : SeqV F (n - 1) P gf lb encs c t K v0 vz L) (hc : w.heap[c]? = some (.cells v0 t (0, 0))) (hps : ∀ x, (encs x).size = ps.size)
    (I : List α → World → Prop) (Ix : Code → List α → World → Prop) (hI : MineV c t w.heap.size I) (hIK : ∀ pre W, I pre W → K W) (hIx : ∀ j, MineV c t w.heap.size (Ix j))
    (h0 : ∀ W, Below w.heap.size w W → I [] W) (a₁ : α → Act)
    (hassign : ∀ (l : Nat) (x : α) (W : World) (K : Act → World → Prop), K (a₁ x) W →
      assign.wpIn (F.inRound l) (n - 1 - 1) P (Exit.then K (fun _ _ _ => False)) { tmps := (ps.zip (encs x)).foldl (fun t (p, v) => t.setIfInBounds p v) a.tmps, defers := [] } W)
    (hbody : ∀ (l : Nat) (pre : List α) (x : α) (post : List α) (W : World), L = pre ++ x :: post → I pre W → body.wpIn (F.inRound l) (n - 1 - 1) P (bodyEndsV w.heap.size c I Ix (pre ++ [x]) W) (a₁ x) W)
    (hdone : ∀ (D : Nat) (W : World), w.heap.size ≤ D → I L W → W.heap[c]? = some (.cells vz t (0, 0)) → W.heap[D]? = some (.deferred (some [])) → Q .normal { a with defers := { target := .collected D, args := #[] } :: a.defers } W)
    (hstop : ∀ (D : Nat) (j : Code) (pre : List α) (W : World), w.heap.size ≤ D → pre <+: L → Ix j pre W → W.heap[D]? = some (.deferred (some [])) → j.wpIn F n P Q { a with defers := { target := .collected D, args := #[] } :: a.defers } W) :
    (Code.rangeFunc g ps assign body).wpIn F n P Q a w := by
  have hcw : c < w.heap.size := (Array.getElem?_eq_some_iff.1 hc).1
  refine wpIn_rangeFunc fun fn hfn => ?_
  rw [hro]
  obtain ⟨R, hR⟩ : ∃ R : LoopState → Option Code → Loop, R = fun st pe => { state := st, pending := pe, fn, tmps := a.tmps, params := ps, assign, body, defers := w.heap.size } := ⟨_, rfl⟩
  obtain ⟨W1, hW1⟩ : ∃ W1, (w.alloc (.deferred (some []))).alloc (.loop (R .ready none)) = W1 := ⟨_, rfl⟩
  have hL : W1.heap[w.heap.size + 1]? = some (.loop (R .ready none)) := by
    rw [← hW1]; have := World.alloc_heap_new (w.alloc (.deferred (some []))) (.loop (R .ready none)); rwa [World.size_alloc] at this
  have hK : W1.heap[w.heap.size]? = some (.deferred (some [])) := by
    rw [← hW1]; exact (Below.heap_alloc _ _ _ (by simp)).trans (World.alloc_heap_new w _)
  have hb1 : Below w.heap.size w W1 := by rw [← hW1]; exact ((Below.refl _ w).alloc (Nat.le_refl _) _).alloc (by simp) _
  have hput : ∀ {s : List α} {I : List α → World → Prop} {W : World} {r : LoopState → Option Code → Loop} {st pe st' pe'}, MineV c t w.heap.size I → I s W → W.heap[w.heap.size + 1]? = some (.loop (r st pe)) → I s (W.putObj (w.heap.size + 1) (.loop (r st' pe'))) :=
    fun hm hi hl => hm.2 _ _ _ _ hi (grownBy_putObj' _ _ _) (by omega) ⟨_, hl, rfl⟩
  have hrun : (Instr.enterLoop fn a.tmps ps assign body none).run P w = .ok (w.heap.size + 1, [{ target := .collected w.heap.size, args := #[] }]) W1 := by rw [← hW1, hR]; exact run_enterLoop_outer _ _ _ _ _
  refine ⟨w.heap.size + 1, [{ target := .collected w.heap.size, args := #[] }], W1, { target := .fn (.func gf) lb, args := #[.func (.yield (w.heap.size + 1)) #[] #[]] }, W1, gf, #[.func (.yield (w.heap.size + 1)) #[] #[]] ++ lb, W1,
    hrun, by simp only [resolve, hg]; simp [go_sem], fun f' hf' => by simp [Target.leads] at hf'; subst hf'; exact hFg, by simp [invoke, go_sem, eg], fun _ => h1, ?_⟩
  have turn : ∀ {A B : World} {k : Nat} {o : Obj}, TurnedV c t A B → A.heap[k]? = some o → k ≠ c → B.heap[k]? = some o := fun hT hk hne =>
    (hT.1.block _ (Array.getElem?_eq_some_iff.1 hk).1 (fun e => hne (by cases e; rfl))).trans hk
  refine (hseq (w.heap.size + 1)
    (fun pre W => I pre W ∧ W.heap[w.heap.size + 1]? = some (.loop (R .ready none)) ∧ W.heap[w.heap.size]? = some (.deferred (some [])))
    (fun pre W => ∃ j, Ix j pre W ∧ W.heap[w.heap.size + 1]? = some (.loop (R .done (some j))) ∧ W.heap[w.heap.size]? = some (.deferred (some [])))
    W1
    (fun s A B hs hT => ⟨hI.1 s A B hs.1 hT, turn hT hs.2.1 (by omega), turn hT hs.2.2 (by omega)⟩)
    (fun s A B hs hT => by obtain ⟨j, hj, h2, h3⟩ := hs; exact ⟨j, (hIx j).1 s A B hj hT, turn hT h2 (by omega), turn hT h3 (by omega)⟩)
    (fun pre W h => hIK pre W h.1) ((hb1.block c hcw).trans hc) ?_ ⟨h0 _ hb1, hL, hK⟩).mono ?_
  · rintro pre x post W hx ⟨hi, hl, hk⟩
    have hlt : w.heap.size + 1 < W.heap.size := (Array.getElem?_eq_some_iff.1 hl).1
    have hy := run_yield (P := P) (args := encs x) hl (by rw [hR]; exact hps x)
    rw [hR] at hy
    refine ⟨fn, _, assign, body, hy, roundIn_of_wpIn hfn (hassign _ x W _ ⟨_, run_beginRound hl (by rw [hR]), ?_⟩)⟩
    have hl2 : (W.putObj (w.heap.size + 1) (.loop { R .ready none with state := .busy })).heap[w.heap.size + 1]? = some (.loop { R .ready none with state := .busy }) := World.putObj_heap_same hlt
    have hk2 : (W.putObj (w.heap.size + 1) (.loop { R .ready none with state := .busy })).heap[w.heap.size]? = some (.deferred (some [])) := (World.putObj_heap_other (by omega)).trans hk
    have hc2 : (W.putObj (w.heap.size + 1) (.loop { R .ready none with state := .busy })).heap[c]? = W.heap[c]? := World.putObj_heap_other (by omega)
    have hi2 : I pre (W.putObj (w.heap.size + 1) (.loop { R .ready none with state := .busy })) := hI.2 _ _ _ _ hi (grownBy_putObj' _ _ _) (by omega) ⟨_, hl, rfl⟩
    refine wpIn_mono (hbody _ pre x post _ hx hi2) ?_
    have back : ∀ (jump : Option Code) (W3 : World), KeepsFrom w.heap.size (W.putObj (w.heap.size + 1) (.loop { R .ready none with state := .busy })) W3 →
        (Instr.endRound (w.heap.size + 1) jump).run P W3 = .ok (.bool jump.isNone) (W3.putObj (w.heap.size + 1) (.loop (R (if jump.isNone then .ready else .done) jump))) ∧
        W3.heap[w.heap.size + 1]? = some (.loop { R .ready none with state := .busy }) ∧
        (W3.putObj (w.heap.size + 1) (.loop (R (if jump.isNone then .ready else .done) jump))).heap[w.heap.size + 1]? = some (.loop (R (if jump.isNone then .ready else .done) jump)) ∧
        (W3.putObj (w.heap.size + 1) (.loop (R (if jump.isNone then .ready else .done) jump))).heap[w.heap.size]? = some (.deferred (some [])) := fun jump W3 hk3 => by
      have hl3 := hk3.same _ _ (by omega) hl2 rfl
      have := run_endRound (P := P) jump hl3
      rw [hR] at this ⊢
      exact ⟨this, by rw [hR] at hl3; exact hl3, World.putObj_heap_same (Array.getElem?_eq_some_iff.1 hl3).1, (World.putObj_heap_other (by omega)).trans (hk3.same _ _ (by omega) hk2 rfl)⟩
    have leave : ∀ (j : Code) (W3 : World), KeepsFrom w.heap.size (W.putObj (w.heap.size + 1) (.loop { R .ready none with state := .busy })) W3 → Ix j (pre ++ [x]) W3 →
        ∃ v w', (Instr.endRound (w.heap.size + 1) (some j)).run P W3 = .ok v w' ∧ ((Ending.returned v = .returned (.bool true) ∧ (I (pre ++ [x]) w' ∧ w'.heap[w.heap.size + 1]? = some (.loop (R .ready none)) ∧ w'.heap[w.heap.size]? = some (.deferred (some []))) ∧ w'.heap[c]? = W.heap[c]?) ∨
          (Ending.returned v = .returned (.bool false) ∧ ∃ j, Ix j (pre ++ [x]) w' ∧ w'.heap[w.heap.size + 1]? = some (.loop (R .done (some j))) ∧ w'.heap[w.heap.size]? = some (.deferred (some [])))) := fun j W3 hk3 hj => by
      obtain ⟨hr, hl3, hl4, hk4⟩ := back (some j) W3 hk3
      exact ⟨_, _, hr, .inr ⟨rfl, j, (hIx j).2 _ _ _ _ hj (grownBy_putObj' _ _ _) (by omega) ⟨_, hl3, rfl⟩, hl4, hk4⟩⟩
    rintro e a3 W3 hp
    cases e with
    | normal =>
      obtain ⟨hk3, hc3, hi3⟩ := hp
      obtain ⟨hr, hl3, hl4, hk4⟩ := back none W3 hk3
      exact ⟨_, _, hr, .inl ⟨rfl, ⟨hI.2 _ _ _ _ hi3 (grownBy_putObj' _ _ _) (by omega) ⟨_, hl3, rfl⟩, hl4, hk4⟩, (World.putObj_heap_other (by omega)).trans (hc3.trans hc2)⟩⟩
    | ret => exact leave .ret W3 hp.1 hp.2
    | exit id => exact leave (.exit id) W3 hp.1 hp.2
    | goto j => exact leave (.goto j) W3 hp.1 hp.2
    | panic _ => exact hp.elim
    | outgrown => exact hp.elim
  · rintro e W2 ⟨⟨v, rfl⟩, (⟨⟨hi, hl, hk⟩, hz⟩ | ⟨pre, hpre, j, hi, hl, hk⟩)⟩
    · have hend := run_endLoop (P := P) hl (by rw [hR]; simp)
      rw [hR] at hend
      exact ⟨none, _, hend, hdone _ _ (Nat.le_refl _) (hI.2 _ _ _ _ hi (grownBy_putObj' _ _ _) (by omega) ⟨_, hl, rfl⟩) ((World.putObj_heap_other (by omega)).trans hz) ((World.putObj_heap_other (by omega)).trans hk)⟩
    · have hend := run_endLoop (P := P) hl (by rw [hR]; simp)
      rw [hR] at hend
      exact ⟨some j, _, hend, hstop _ j pre _ (Nat.le_refl _) hpre ((hIx j).2 _ _ _ _ hi (grownBy_putObj' _ _ _) (by omega) ⟨_, hl, rfl⟩) ((World.putObj_heap_other (by omega)).trans hk)⟩
end Go.Proofs.YtmfbkelhegdmpaaGreatDoor
