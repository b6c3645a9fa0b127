/- 'for x := range seq', also within a round, where the iterator turns blocks of its own between two rounds: its contract (SeqG), and the law of the statement in its two forms. -/
import Derived.Test.YtbcofimmfbmkoaaDoorProg
import Derived.RangeFuncNested
import Derived.RangeFuncBound
import Derived.RangeFuncLeaves
namespace Go.Proofs.YtbcofimmfbmkoaaDoor
open Go.RowKit

/-- The iterator's contract: just the elements of L come, in their order; between two rounds it turns the world as T says; it leans on what a round keeps (Kp) and on K. -/
def SeqG {α : Type} (F : Fence) (n : Nat) (P : Program) (g : Nat) (lb : Array Value) (encs : α → Array Value) (T : World → World → Prop) (K : World → Prop) (Kp : World → World → Prop) (L : List α) (W : World) : Prop :=
  ∀ (l : Nat) (J Jx : List α → World → Prop), (∀ s A B, J s A → T A B → J s B) → (∀ s A B, Jx s A → T A B → Jx s B) → (∀ pre V, J pre V → K V) →
    (∀ pre x post W1, L = pre ++ x :: post → J pre W1 → YieldAt F (n - 1) P l (encs x) W1 fun e W' =>
      (e = .returned (.bool true) ∧ J (pre ++ [x]) W' ∧ Kp W1 W') ∨ (e = .returned (.bool false) ∧ Jx (pre ++ [x]) W')) →
    J [] W → CallsIn F n P g (#[.func (.yield l) #[] #[]] ++ lb) W fun e W' => (∃ v, e = .returned v) ∧ (J L W' ∨ ∃ pre, pre <+: L ∧ Jx pre W')
/-- A turn keeps what is no cells. -/
def TCells (T : World → World → Prop) : Prop := ∀ (A B : World) (k : Nat) (o : Obj), T A B → A.heap[k]? = some o → o.isCells = false → B.heap[k]? = some o
/-- The caller's word abides the iterator's turns and the turns of the loops' own records. -/
def MineG {β : Type} (T : World → World → Prop) (B : Nat) (I : β → World → Prop) : Prop :=
  (∀ s A A', I s A → T A A' → I s A') ∧ ∀ s A A' k, I s A → A.grownBy A' (some k) → B ≤ k → (∃ o : Obj, A.heap[k]? = some o ∧ o.isCells = false) → I s A'
def endsG {α : Type} (B : Nat) (Kp : World → World → Prop) (I : List α → World → Prop) (Ix : Code → List α → World → Prop) (xs : List α) (W : World) : Exit → Act → World → Prop
  | .normal, _, W' => KeepsFrom B W W' ∧ Kp W W' ∧ I xs W'
  | .ret, _, W' => KeepsFrom B W W' ∧ Ix .ret xs W'
  | .exit id, _, W' => KeepsFrom B W W' ∧ Ix (.exit id) xs W'
  | .goto j, _, W' => KeepsFrom B W W' ∧ Ix (.goto j) xs W'
  | .panic _, _, _ => False
  | .outgrown, _, _ => False

theorem rangeG {F : Fence} {n : Nat} {P : Program} {α : Type} {g : Operand} {ps : Array Tmp} {assign body : Code} {Q : Exit → Act → World → Prop} {a : Act} {w : World} {encs : α → Array Value} {L : List α}
    (hro : F.round = none) (h1 : 1 ≤ n) {gf : Nat} {lb : Array Value} (hg : a.eval g = .func (.func gf) #[] lb) (hFg : F.fn gf) (eg : ∀ args w, (callFunc gf args).run P w = .ok (.enter gf args) w)
    {T : World → World → Prop} {K : World → Prop} {Kp : World → World → Prop} (hT : TCells T) (hKt : ∀ {A B C : World}, Kp A B → Kp B C → Kp A C)
    (hKb : ∀ (W : World) (l : Nat) (o o' : Obj), w.heap.size ≤ l → W.heap[l]? = some o → o.isCells = false → Kp W (W.putObj l o'))
    (hseq : ∀ W1, Below w.heap.size w W1 → SeqG F (n - 1) P gf lb encs T K Kp L W1) (hps : ∀ x, (encs x).size = ps.size)
    (I : List α → World → Prop) (Ix : Code → List α → World → Prop) (hI : MineG T w.heap.size I) (hIK : ∀ pre W, I pre W → K W) (hIx : ∀ j, MineG T w.heap.size (Ix j))
    (h0 : ∀ W, Below w.heap.size w W → I [] W) (a₁ : α → Act)
    (hassign : ∀ (l : Nat) (x : α) (W : World) (K : Act → World → Prop), K (a₁ x) W →
      assign.wpIn (F.inRound l) (n - 1 - 1) P (Exit.then K (fun _ _ _ => False)) { tmps := (ps.zip (encs x)).foldl (fun t (p, v) => t.setIfInBounds p v) a.tmps, defers := [] } W)
    (hbody : ∀ (l : Nat) (pre : List α) (x : α) (post : List α) (W : World), L = pre ++ x :: post → w.heap.size ≤ l → (∃ r, W.heap[l]? = some (.loop r)) → I pre W → body.wpIn (F.inRound l) (n - 1 - 1) P (endsG w.heap.size Kp I Ix (pre ++ [x]) W) (a₁ x) W)
    (hdone : ∀ (D : Nat) (W : World), w.heap.size ≤ D → I L W → W.heap[D]? = some (.deferred (some [])) → Q .normal { a with defers := { target := .collected D, args := #[] } :: a.defers } W)
    (hstop : ∀ (D : Nat) (j : Code) (pre : List α) (W : World), w.heap.size ≤ D → pre <+: L → Ix j pre W → W.heap[D]? = some (.deferred (some [])) → j.wpIn F n P Q { a with defers := { target := .collected D, args := #[] } :: a.defers } W) :
    (Code.rangeFunc g ps assign body).wpIn F n P Q a w := by
  refine wpIn_rangeFunc fun fn hfn => ?_
  rw [hro]
  obtain ⟨R, hR⟩ : ∃ R : LoopState → Option Code → Loop, R = fun st pe => { state := st, pending := pe, fn, tmps := a.tmps, params := ps, assign, body, defers := w.heap.size } := ⟨_, rfl⟩
  obtain ⟨W1, hW1⟩ : ∃ W1, (w.alloc (.deferred (some []))).alloc (.loop (R .ready none)) = W1 := ⟨_, rfl⟩
  have hL : W1.heap[w.heap.size + 1]? = some (.loop (R .ready none)) := by
    rw [← hW1]; have := World.alloc_heap_new (w.alloc (.deferred (some []))) (.loop (R .ready none)); rwa [World.size_alloc] at this
  have hK : W1.heap[w.heap.size]? = some (.deferred (some [])) := by
    rw [← hW1]; exact (Below.heap_alloc _ _ _ (by simp)).trans (World.alloc_heap_new w _)
  have hb1 : Below w.heap.size w W1 := by rw [← hW1]; exact ((Below.refl _ w).alloc (Nat.le_refl _) _).alloc (by simp) _
  have hrun : (Instr.enterLoop fn a.tmps ps assign body none).run P w = .ok (w.heap.size + 1, [{ target := .collected w.heap.size, args := #[] }]) W1 := by rw [← hW1, hR]; exact run_enterLoop_outer _ _ _ _ _
  refine ⟨w.heap.size + 1, [{ target := .collected w.heap.size, args := #[] }], W1, { target := .fn (.func gf) lb, args := #[.func (.yield (w.heap.size + 1)) #[] #[]] }, W1, gf, #[.func (.yield (w.heap.size + 1)) #[] #[]] ++ lb, W1,
    hrun, by simp only [resolve, hg]; simp [go_sem], fun f' hf' => by simp [Target.leads] at hf'; subst hf'; exact hFg, by simp [invoke, go_sem, eg], fun _ => h1, ?_⟩
  refine (hseq W1 hb1 (w.heap.size + 1)
    (fun pre W => I pre W ∧ W.heap[w.heap.size + 1]? = some (.loop (R .ready none)) ∧ W.heap[w.heap.size]? = some (.deferred (some [])))
    (fun pre W => ∃ j, Ix j pre W ∧ W.heap[w.heap.size + 1]? = some (.loop (R .done (some j))) ∧ W.heap[w.heap.size]? = some (.deferred (some [])))
    (fun s A B hs ht => ⟨hI.1 s A B hs.1 ht, hT A B _ _ ht hs.2.1 rfl, hT A B _ _ ht hs.2.2 rfl⟩)
    (fun s A B hs ht => by obtain ⟨j, hj, h2, h3⟩ := hs; exact ⟨j, (hIx j).1 s A B hj ht, hT A B _ _ ht h2 rfl, hT A B _ _ ht h3 rfl⟩)
    (fun pre W h => hIK pre W h.1) ?_ ⟨h0 _ hb1, hL, hK⟩).mono ?_
  · rintro pre x post W hx ⟨hi, hl, hk⟩
    have hlt : w.heap.size + 1 < W.heap.size := (Array.getElem?_eq_some_iff.1 hl).1
    have hy := run_yield (P := P) (args := encs x) hl (by rw [hR]; exact hps x)
    rw [hR] at hy
    refine ⟨fn, _, assign, body, hy, roundIn_of_wpIn hfn (hassign _ x W _ ⟨_, run_beginRound hl (by rw [hR]), ?_⟩)⟩
    have hl2 : (W.putObj (w.heap.size + 1) (.loop { R .ready none with state := .busy })).heap[w.heap.size + 1]? = some (.loop { R .ready none with state := .busy }) := World.putObj_heap_same hlt
    have hk2 : (W.putObj (w.heap.size + 1) (.loop { R .ready none with state := .busy })).heap[w.heap.size]? = some (.deferred (some [])) := (World.putObj_heap_other (by omega)).trans hk
    have hw2 : Kp W (W.putObj (w.heap.size + 1) (.loop { R .ready none with state := .busy })) := hKb _ _ _ _ (by omega) hl rfl
    have hi2 : I pre (W.putObj (w.heap.size + 1) (.loop { R .ready none with state := .busy })) := hI.2 _ _ _ _ hi (grownBy_putObj' _ _ _) (by omega) ⟨_, hl, rfl⟩
    refine wpIn_mono (hbody _ pre x post _ hx (by omega) ⟨_, hl2⟩ hi2) ?_
    have back : ∀ (jump : Option Code) (W3 : World), KeepsFrom w.heap.size (W.putObj (w.heap.size + 1) (.loop { R .ready none with state := .busy })) W3 →
        (Instr.endRound (w.heap.size + 1) jump).run P W3 = .ok (.bool jump.isNone) (W3.putObj (w.heap.size + 1) (.loop (R (if jump.isNone then .ready else .done) jump))) ∧
        W3.heap[w.heap.size + 1]? = some (.loop { R .ready none with state := .busy }) ∧
        (W3.putObj (w.heap.size + 1) (.loop (R (if jump.isNone then .ready else .done) jump))).heap[w.heap.size + 1]? = some (.loop (R (if jump.isNone then .ready else .done) jump)) ∧
        (W3.putObj (w.heap.size + 1) (.loop (R (if jump.isNone then .ready else .done) jump))).heap[w.heap.size]? = some (.deferred (some [])) := fun jump W3 hk3 => by
      have hl3 := hk3.same _ _ (by omega) hl2 rfl
      have := run_endRound (P := P) jump hl3
      rw [hR] at this ⊢
      exact ⟨this, by rw [hR] at hl3; exact hl3, World.putObj_heap_same (Array.getElem?_eq_some_iff.1 hl3).1, (World.putObj_heap_other (by omega)).trans (hk3.same _ _ (by omega) hk2 rfl)⟩
    have leave : ∀ (j : Code) (W3 : World), KeepsFrom w.heap.size (W.putObj (w.heap.size + 1) (.loop { R .ready none with state := .busy })) W3 → Ix j (pre ++ [x]) W3 →
        ∃ v w', (Instr.endRound (w.heap.size + 1) (some j)).run P W3 = .ok v w' ∧ ((Ending.returned v = .returned (.bool true) ∧ (I (pre ++ [x]) w' ∧ w'.heap[w.heap.size + 1]? = some (.loop (R .ready none)) ∧ w'.heap[w.heap.size]? = some (.deferred (some []))) ∧ Kp W w') ∨
          (Ending.returned v = .returned (.bool false) ∧ ∃ j, Ix j (pre ++ [x]) w' ∧ w'.heap[w.heap.size + 1]? = some (.loop (R .done (some j))) ∧ w'.heap[w.heap.size]? = some (.deferred (some [])))) := fun j W3 hk3 hj => by
      obtain ⟨hr, hl3, hl4, hk4⟩ := back (some j) W3 hk3
      exact ⟨_, _, hr, .inr ⟨rfl, j, (hIx j).2 _ _ _ _ hj (grownBy_putObj' _ _ _) (by omega) ⟨_, hl3, rfl⟩, hl4, hk4⟩⟩
    rintro e a3 W3 hp
    cases e with
    | normal =>
      obtain ⟨hk3, hc3, hi3⟩ := hp
      obtain ⟨hr, hl3, hl4, hk4⟩ := back none W3 hk3
      exact ⟨_, _, hr, .inl ⟨rfl, ⟨hI.2 _ _ _ _ hi3 (grownBy_putObj' _ _ _) (by omega) ⟨_, hl3, rfl⟩, hl4, hk4⟩, hKt (hKt hw2 hc3) (hKb _ _ _ _ (by omega) hl3 rfl)⟩⟩
    | ret => exact leave .ret W3 hp.1 hp.2
    | exit id => exact leave (.exit id) W3 hp.1 hp.2
    | goto j => exact leave (.goto j) W3 hp.1 hp.2
    | panic _ => exact hp.elim
    | outgrown => exact hp.elim
  · rintro e W2 ⟨⟨v, rfl⟩, (⟨hi, hl, hk⟩ | ⟨pre, hpre, j, hi, hl, hk⟩)⟩
    · have hend := run_endLoop (P := P) hl (by rw [hR]; simp)
      rw [hR] at hend
      exact ⟨none, _, hend, hdone _ _ (Nat.le_refl _) (hI.2 _ _ _ _ hi (grownBy_putObj' _ _ _) (by omega) ⟨_, hl, rfl⟩) ((World.putObj_heap_other (by omega)).trans hk)⟩
    · have hend := run_endLoop (P := P) hl (by rw [hR]; simp)
      rw [hR] at hend
      exact ⟨some j, _, hend, hstop _ j pre _ (Nat.le_refl _) hpre ((hIx j).2 _ _ _ _ hi (grownBy_putObj' _ _ _) (by omega) ⟨_, hl, rfl⟩) ((World.putObj_heap_other (by omega)).trans hk)⟩

/-- The same within a round of loop l₀; the loop's variables may be boxed. -/
theorem rangeGN {F : Fence} {n : Nat} {P : Program} {α : Type} {g : Operand} {ps : Array Tmp} {assign body : Code} {Q : Exit → Act → World → Prop} {a : Act} {w : World} {encs : α → Array Value} {L : List α}
    {l₀ : Nat} {r₀ : Loop} (hro : F.round = some l₀) (hl₀ : w.heap[l₀]? = some (.loop r₀)) (h1 : 1 ≤ n) {gf : Nat} {lb : Array Value} (hg : a.eval g = .func (.func gf) #[] lb) (hFg : F.fn gf) (eg : ∀ args w, (callFunc gf args).run P w = .ok (.enter gf args) w)
    {T : World → World → Prop} {K : World → Prop} {Kp : World → World → Prop} (hT : TCells T) (hKt : ∀ {A B C : World}, Kp A B → Kp B C → Kp A C)
    (hKb : ∀ (W : World) (l : Nat) (o o' : Obj), w.heap.size ≤ l → W.heap[l]? = some o → o.isCells = false → Kp W (W.putObj l o'))
    (hseq : ∀ W1, Below w.heap.size w W1 → SeqG F (n - 1) P gf lb encs T K Kp L W1) (hps : ∀ x, (encs x).size = ps.size)
    (I : List α → World → Prop) (Ix : Code → List α → World → Prop) (hI : MineG T w.heap.size I) (hIK : ∀ pre W, I pre W → K W) (hIx : ∀ j, MineG T w.heap.size (Ix j))
    (h0 : ∀ W, Below w.heap.size w W → I [] W) (Ax : α → Act → World → Prop)
    (hAx : ∀ x a₁ W W' k, Ax x a₁ W → W.grownBy W' (some k) → w.heap.size ≤ k → (∃ o : Obj, W.heap[k]? = some o ∧ o.isCells = false) → Ax x a₁ W')
    (hassign : ∀ (l : Nat) (pre : List α) (x : α) (W : World) (K : Act → World → Prop), I pre W → w.heap.size ≤ W.heap.size → (∀ a' W', KeepsFrom w.heap.size W W' → Kp W W' → I pre W' → Ax x a' W' → K a' W') →
      assign.wpIn (F.inRound l) (n - 1 - 1) P (Exit.then K (fun _ _ _ => False)) { tmps := (ps.zip (encs x)).foldl (fun t (p, v) => t.setIfInBounds p v) a.tmps, defers := [] } W)
    (hbody : ∀ (l : Nat) (pre : List α) (x : α) (post : List α) (a' : Act) (W : World), L = pre ++ x :: post → w.heap.size ≤ l → (∃ r, W.heap[l]? = some (.loop r)) → I pre W → Ax x a' W → body.wpIn (F.inRound l) (n - 1 - 1) P (endsG w.heap.size Kp I Ix (pre ++ [x]) W) a' W)
    (hdone : ∀ (W : World), I L W → Q .normal a W)
    (hstop : ∀ (j : Code) (pre : List α) (W : World), pre <+: L → Ix j pre W → j.wpIn F n P Q a W) :
    (Code.rangeFunc g ps assign body).wpIn F n P Q a w := by
  refine wpIn_rangeFunc fun fn hfn => ?_
  rw [hro]
  obtain ⟨R, hR⟩ : ∃ R : LoopState → Option Code → Loop, R = fun st pe => { state := st, pending := pe, fn, tmps := a.tmps, params := ps, assign, body, defers := r₀.defers } := ⟨_, rfl⟩
  obtain ⟨W1, hW1⟩ : ∃ W1, w.alloc (.loop (R .ready none)) = W1 := ⟨_, rfl⟩
  have hL : W1.heap[w.heap.size]? = some (.loop (R .ready none)) := by rw [← hW1]; exact World.alloc_heap_new w _
  have hb1 : Below w.heap.size w W1 := by rw [← hW1]; exact (Below.refl _ w).alloc (Nat.le_refl _) _
  refine ⟨w.heap.size, [], W1, { target := .fn (.func gf) lb, args := #[.func (.yield w.heap.size) #[] #[]] }, W1, gf, #[.func (.yield w.heap.size) #[] #[]] ++ lb, W1,
    by rw [← hW1, hR]; exact run_enterLoop_inner hl₀ _ _ _ _ _, by simp only [resolve, hg]; simp [go_sem], fun f' hf' => by simp [Target.leads] at hf'; subst hf'; exact hFg, by simp [invoke, go_sem, eg], fun _ => h1, ?_⟩
  refine (hseq W1 hb1 w.heap.size
    (fun pre W => I pre W ∧ W.heap[w.heap.size]? = some (.loop (R .ready none)))
    (fun pre W => ∃ j, Ix j pre W ∧ W.heap[w.heap.size]? = some (.loop (R .done (some j))))
    (fun s A B hs ht => ⟨hI.1 s A B hs.1 ht, hT A B _ _ ht hs.2 rfl⟩)
    (fun s A B hs ht => by obtain ⟨j, hj, h2⟩ := hs; exact ⟨j, (hIx j).1 s A B hj ht, hT A B _ _ ht h2 rfl⟩)
    (fun pre W h => hIK pre W h.1) ?_ ⟨h0 _ hb1, hL⟩).mono ?_
  · rintro pre x post W0 hx ⟨hi0, hl0⟩
    have hlt0 : w.heap.size < W0.heap.size := (Array.getElem?_eq_some_iff.1 hl0).1
    have hy := run_yield (P := P) (args := encs x) hl0 (by rw [hR]; exact hps x)
    rw [hR] at hy
    refine ⟨fn, _, assign, body, hy, roundIn_of_wpIn hfn (hassign _ pre x W0 _ hi0 (by omega) fun a₁ W hkf hkp hi hax => ?_)⟩
    have hl := hkf.same _ _ (Nat.le_refl _) hl0 rfl
    have hlt : w.heap.size < W.heap.size := (Array.getElem?_eq_some_iff.1 hl).1
    refine ⟨_, run_beginRound hl (by rw [hR]), ?_⟩
    have hl2 : (W.putObj w.heap.size (.loop { R .ready none with state := .busy })).heap[w.heap.size]? = some (.loop { R .ready none with state := .busy }) := World.putObj_heap_same hlt
    have hw2 : Kp W (W.putObj w.heap.size (.loop { R .ready none with state := .busy })) := hKb _ _ _ _ (Nat.le_refl _) hl rfl
    have hi2 : I pre (W.putObj w.heap.size (.loop { R .ready none with state := .busy })) := hI.2 _ _ _ _ hi (grownBy_putObj' _ _ _) (Nat.le_refl _) ⟨_, hl, rfl⟩
    refine wpIn_mono (hbody _ pre x post _ _ hx (Nat.le_refl _) ⟨_, hl2⟩ hi2 (hAx _ _ _ _ _ hax (grownBy_putObj' _ _ _) (Nat.le_refl _) ⟨_, hl, rfl⟩)) ?_
    have back : ∀ (jump : Option Code) (W3 : World), KeepsFrom w.heap.size (W.putObj w.heap.size (.loop { R .ready none with state := .busy })) W3 →
        (Instr.endRound w.heap.size jump).run P W3 = .ok (.bool jump.isNone) (W3.putObj w.heap.size (.loop (R (if jump.isNone then .ready else .done) jump))) ∧
        W3.heap[w.heap.size]? = some (.loop { R .ready none with state := .busy }) ∧
        (W3.putObj w.heap.size (.loop (R (if jump.isNone then .ready else .done) jump))).heap[w.heap.size]? = some (.loop (R (if jump.isNone then .ready else .done) jump)) := fun jump W3 hk3 => by
      have hl3 := hk3.same _ _ (Nat.le_refl _) hl2 rfl
      have := run_endRound (P := P) jump hl3
      rw [hR] at this ⊢
      exact ⟨this, by rw [hR] at hl3; exact hl3, World.putObj_heap_same (Array.getElem?_eq_some_iff.1 hl3).1⟩
    have leave : ∀ (j : Code) (W3 : World), KeepsFrom w.heap.size (W.putObj w.heap.size (.loop { R .ready none with state := .busy })) W3 → Ix j (pre ++ [x]) W3 →
        ∃ v w', (Instr.endRound w.heap.size (some j)).run P W3 = .ok v w' ∧ ((Ending.returned v = .returned (.bool true) ∧ (I (pre ++ [x]) w' ∧ w'.heap[w.heap.size]? = some (.loop (R .ready none))) ∧ Kp W0 w') ∨
          (Ending.returned v = .returned (.bool false) ∧ ∃ j, Ix j (pre ++ [x]) w' ∧ w'.heap[w.heap.size]? = some (.loop (R .done (some j))))) := fun j W3 hk3 hj => by
      obtain ⟨hr, hl3, hl4⟩ := back (some j) W3 hk3
      exact ⟨_, _, hr, .inr ⟨rfl, j, (hIx j).2 _ _ _ _ hj (grownBy_putObj' _ _ _) (Nat.le_refl _) ⟨_, hl3, rfl⟩, hl4⟩⟩
    rintro e a3 W3 hp
    cases e with
    | normal =>
      obtain ⟨hk3, hc3, hi3⟩ := hp
      obtain ⟨hr, hl3, hl4⟩ := back none W3 hk3
      exact ⟨_, _, hr, .inl ⟨rfl, ⟨hI.2 _ _ _ _ hi3 (grownBy_putObj' _ _ _) (Nat.le_refl _) ⟨_, hl3, rfl⟩, hl4⟩, hKt hkp (hKt (hKt hw2 hc3) (hKb _ _ _ _ (Nat.le_refl _) hl3 rfl))⟩⟩
    | ret => exact leave .ret W3 hp.1 hp.2
    | exit id => exact leave (.exit id) W3 hp.1 hp.2
    | goto j => exact leave (.goto j) W3 hp.1 hp.2
    | panic _ => exact hp.elim
    | outgrown => exact hp.elim
  · rintro e W2 ⟨⟨v, rfl⟩, (⟨hi, hl⟩ | ⟨pre, hpre, j, hi, hl⟩)⟩
    · have hend := run_endLoop (P := P) hl (by rw [hR]; simp)
      rw [hR] at hend
      exact ⟨none, _, hend, hdone _ (hI.2 _ _ _ _ hi (grownBy_putObj' _ _ _) (Nat.le_refl _) ⟨_, hl, rfl⟩)⟩
    · have hend := run_endLoop (P := P) hl (by rw [hR]; simp)
      rw [hR] at hend
      exact ⟨some j, _, hend, hstop j pre _ hpre ((hIx j).2 _ _ _ _ hi (grownBy_putObj' _ _ _) (Nat.le_refl _) ⟨_, hl, rfl⟩)⟩
end Go.Proofs.YtbcofimmfbmkoaaDoor
