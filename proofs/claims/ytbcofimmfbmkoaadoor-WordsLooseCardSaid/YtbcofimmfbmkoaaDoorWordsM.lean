/- Rows and their words as values that the call itself makes, chapter 3. -/
import Derived.Test.YtbcofimmfbmkoaaDoorWordsL
namespace Go.Proofs.YtbcofimmfbmkoaaDoor
open Go.RowKit Words3

theorem infoWord : (Tryd.prog.info? 46).map (fun i => (i.zero, i.size, i.bytes)) = some (some (.agg #[.int .i64 0, .string ⟨#[]⟩, .string ⟨#[]⟩]), 3, 40) := by kernel_rfl
theorem infoRow : (Tryd.prog.info? 39).map (fun i => (i.zero, i.size, i.bytes)) = some (some (.agg #[.int .i64 0, .slice none 0 0]), 2, 32) := by kernel_rfl
def wcell (x : Wd) : List Value := [.int .i64 (x.at_ : Int), .string ⟨x.key.toArray⟩, .string ⟨x.text.toArray⟩]
def wcells (l : List Wd) : List Value := l.flatMap wcell
theorem wcells_snoc (l : List Wd) (x : Wd) : wcells (l ++ [x]) = wcells l ++ wcell x := by simp [wcells]
theorem wcells_length (l : List Wd) : (wcells l).length = l.length * 3 := by
  induction l with
  | nil => rfl
  | cons x l ih =>
    show (wcell x ++ wcells l).length = _
    rw [List.length_append, ih, List.length_cons, show (wcell x).length = 3 from rfl]; omega
theorem wcell_one (x : Wd) : ∀ u ∈ wcell x, u.oneCell' = true := by
  intro u hu
  simp only [wcell, List.mem_cons, List.not_mem_nil, or_false] at hu
  rcases hu with rfl | rfl | rfl <;> rfl
def rcells (vs : List Value) (rs : List Rw) : List Value := (rs.zip vs).flatMap fun p => [.int .i64 (p.1.at_ : Int), p.2]
theorem rcells_snoc {vs : List Value} {rs : List Rw} (h : vs.length = rs.length) (v : Value) (r : Rw) : rcells (vs ++ [v]) (rs ++ [r]) = rcells vs rs ++ [.int .i64 (r.at_ : Int), v] := by
  unfold rcells
  rw [List.zip_append h.symm]
  simp
/-- v is a slice in blocks of its own at or beyond B; it holds the words l. -/
def Ws (W : World) (B : Nat) (v : Value) (l : List Wd) : Prop := W.ownsRow B 46 3 v l.length (wcells l)
/-- v is a slice in blocks of its own at or beyond B; it holds the rows rs. -/
def Rs (W : World) (B : Nat) (v : Value) (rs : List Rw) : Prop :=
  ∃ vs : List Value, vs.length = rs.length ∧ W.ownsRow B 39 2 v rs.length (rcells vs rs) ∧ ∀ p ∈ rs.zip vs, Ws W B p.2 p.1.words
theorem own_apart {W : World} {B e size n k : Nat} {v : Value} {xs : List Value} (h : W.ownsRow B e size v n xs) (hk : k < B ∨ ∃ o : Obj, W.heap[k]? = some o ∧ ∀ cs : Array Value, o ≠ .cells cs e (0, 0)) : v.ownBlock ≠ some k := by
  intro e1
  rcases h.2 with ⟨rfl, _⟩ | ⟨g', cap, cur, rfl, hg, hh, _⟩
  · simp [Value.ownBlock] at e1
  · simp only [Value.ownBlock, Option.some.injEq] at e1
    subst e1
    rcases hk with hk | ⟨o, ho, hn⟩
    · omega
    · rw [ho] at hh
      exact hn _ (Option.some.inj hh)
/-- A turn that touches neither words nor rows. -/
def Off (W : World) (B : Nat) (r : Option Nat) : Prop := ∀ k, r = some k → k < B ∨ ∃ o : Obj, W.heap[k]? = some o ∧ (∀ cs : Array Value, o ≠ .cells cs 46 (0, 0)) ∧ ∀ cs : Array Value, o ≠ .cells cs 39 (0, 0)
theorem Ws.kept {W W' : World} {B : Nat} {v : Value} {l : List Wd} {r : Option Nat} (h : Ws W B v l) (hg : W.grownBy W' r) (ho : ∀ k, r = some k → k < B ∨ ∃ o : Obj, W.heap[k]? = some o ∧ ∀ cs : Array Value, o ≠ .cells cs 46 (0, 0)) : Ws W' B v l := by
  refine World.ownsRow.kept h hg ?_
  cases r with
  | none => cases hv : v.ownBlock with
    | none => exact .inl rfl
    | some k => exact .inr (by simp)
  | some k => exact .inr (own_apart h (ho k rfl))
theorem Ws.off {W W' : World} {B : Nat} {v : Value} {l : List Wd} {r : Option Nat} (h : Ws W B v l) (hg : W.grownBy W' r) (ho : Off W B r) : Ws W' B v l :=
  h.kept hg fun k hk => (ho k hk).imp id fun ⟨o, h1, h2, _⟩ => ⟨o, h1, h2⟩
theorem Rs.off {W W' : World} {B : Nat} {v : Value} {l : List Rw} {r : Option Nat} (h : Rs W B v l) (hg : W.grownBy W' r) (ho : Off W B r) : Rs W' B v l := by
  obtain ⟨vs, h1, h2, h3⟩ := h
  refine ⟨vs, h1, World.ownsRow.kept h2 hg ?_, fun p hp => (h3 p hp).off hg ho⟩
  cases r with
  | none => cases hv : v.ownBlock with
    | none => exact .inl rfl
    | some k => exact .inr (by simp)
  | some k => exact .inr (own_apart h2 ((ho k rfl).imp id fun ⟨o, h1, _, h2⟩ => ⟨o, h1, h2⟩))
theorem Ws.below {W W' : World} {B : Nat} {v : Value} {l : List Wd} (h : Ws W B v l) (hb : Below W.heap.size W W') : Ws W' B v l := own_below h hb
theorem Ws.lower {W : World} {B B' : Nat} {v : Value} {l : List Wd} (h : Ws W B v l) (hB : B' ≤ B) : Ws W B' v l := own_lower h hB
theorem Rs.below {W W' : World} {B : Nat} {v : Value} {l : List Rw} (h : Rs W B v l) (hb : Below W.heap.size W W') : Rs W' B v l := by
  obtain ⟨vs, h1, h2, h3⟩ := h
  exact ⟨vs, h1, own_below h2 hb, fun p hp => (h3 p hp).below hb⟩
theorem Ws.nil (W : World) (B : Nat) : Ws W B (.slice none 0 0) [] := World.ownsRow_nil _ _ _ _
theorem Rs.nil (W : World) (B : Nat) : Rs W B (.slice none 0 0) [] := ⟨[], rfl, World.ownsRow_nil _ _ _ _, by simp⟩
theorem Ws.slice {W : World} {B : Nat} {v : Value} {l : List Wd} (h : Ws W B v l) : ∃ ad c, v = .slice ad l.length c := own_slice h
theorem Rs.slice {W : World} {B : Nat} {v : Value} {l : List Rw} (h : Rs W B v l) : ∃ ad c, v = .slice ad l.length c := by
  obtain ⟨vs, h1, h2, h3⟩ := h
  exact own_slice h2
/-- One row more stands behind the others. -/
theorem Rs.snoc {W W' : World} {B : Nat} {v v' : Value} {l : List Rw} {r : Rw} {u : Value} {vs : List Value} (h1 : vs.length = l.length) (h2 : W.ownsRow B 39 2 v l.length (rcells vs l)) (h3 : ∀ p ∈ l.zip vs, Ws W B p.2 p.1.words) (hu : Ws W B u r.words)
    (hg : W.grownBy W' v.ownBlock) (h : W'.ownsRow B 39 2 v' (l.length + 1) (rcells vs l ++ [.int .i64 (r.at_ : Int), u])) : Rs W' B v' (l ++ [r]) := by
  have hk : ∀ {x : Value} {ws : List Wd}, Ws W B x ws → Ws W' B x ws := fun {x ws} hx => by
    refine hx.kept hg fun k hk => ?_
    rcases h2.2 with ⟨rfl, _⟩ | ⟨g', cap, cur, rfl, hg', hh, _⟩
    · simp [Value.ownBlock] at hk
    · simp only [Value.ownBlock, Option.some.injEq] at hk
      subst hk
      exact .inr ⟨_, hh, fun cs e => by cases e⟩
  refine ⟨vs ++ [u], by simp [h1], by rw [rcells_snoc h1, List.length_append]; exact h, fun p hp => ?_⟩
  rw [List.zip_append h1.symm] at hp
  rcases List.mem_append.1 hp with hp | hp
  · exact hk (h3 p hp)
  · simp at hp
    rw [hp]; exact hk hu
/-- No more words than bytes. -/
theorem wordsGo_length : ∀ (f n : Nat) (s : List UInt8), (wordsGo f n s).length ≤ s.length
  | 0, _, _ => Nat.zero_le _
  | f + 1, n, [] => Nat.zero_le _
  | f + 1, n, c :: r => by
    simp only [wordsGo]
    split
    · have := wordsGo_length f (n + 1) r
      rw [List.length_cons]; omega
    · split
      · exact Nat.zero_le _
      · split
        · rename_i h3
          obtain ⟨k, h4, h5, h6, _⟩ := wordF_rest _ h3
          generalize n + ((c :: r).length - (wordF (c :: r)).body.rest.length) = m
          have := wordsGo_length f m (wordF (c :: r)).body.rest
          rw [List.length_cons]
          rw [h4, List.length_drop] at this
          rw [h4]; rw [List.length_cons] at h6 this ⊢
          omega
        · simp
/-- What stands behind the words that are built as they have to be. -/
theorem rowOf_app : ∀ (pre ls : List (Wd × Bool)), (∀ y ∈ pre, y.2 = true) → rowOf (pre ++ ls) = (pre.map (·.1) ++ (rowOf ls).1, (rowOf ls).2)
  | [], _, _ => rfl
  | (w, true) :: pre, ls, h => by
    have := rowOf_app pre ls fun y hy => h y (List.mem_cons_of_mem _ hy)
    show (w :: (rowOf (pre ++ ls)).1, (rowOf (pre ++ ls)).2) = _
    rw [this]; rfl
  | (w, false) :: pre, ls, h => by have := h (w, false) (List.mem_cons_self ..); cases this
theorem linesGo_length : ∀ (f : Nat) (s : List UInt8), s.length < f → ((linesGo f s).map fun l => l.length + 1).sum = s.length + 1
  | 0, _, h => absurd h (by omega)
  | f + 1, s, h => by
    rw [linesGo_z]
    split
    · rename_i h1
      have := linesGo_length f (s.drop (idx 10 s + 1)) (by rw [List.length_drop]; omega)
      rw [List.map_cons, List.sum_cons, this, List.length_take, List.length_drop]; omega
    · simp
theorem keepsFrom_grown {B : Nat} {W W' : World} {r : Option Nat} (hg : W.grownBy W' r) (hr : ∀ j, r = some j → j < B ∨ ∃ o : Obj, W.heap[j]? = some o ∧ o.isCells = true) : KeepsFrom B W W' :=
  ⟨hg.size, fun k o hk ho hn => by
    refine (hg.block k (Array.getElem?_eq_some_iff.1 ho).1 (fun e => ?_)).trans ho
    rcases hr k e.symm with h | ⟨o', h1, h2⟩
    · omega
    · rw [ho] at h1; cases h1; rw [hn] at h2; cases h2⟩
theorem keepS_grown {B : Nat} {X Y : World} {r : Option Nat} (hg : X.grownBy Y r) (hr : ∀ j, r = some j → j < B ∨ ∃ o : Obj, X.heap[j]? = some o ∧ ∀ cs : Array Value, o ≠ .cells cs 66 (0, 0)) : KeepS B X Y := by
  intro b s k hb hs
  unfold Scn at hs ⊢
  refine (hg.block b (Array.getElem?_eq_some_iff.1 hs).1 (fun e => ?_)).trans hs
  rcases hr b e.symm with h | ⟨o', h1, h2⟩
  · omega
  · rw [hs] at h1; cases h1; exact h2 _ rfl
end Go.Proofs.YtbcofimmfbmkoaaDoor
