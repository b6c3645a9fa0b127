/- The plain law of streams of chapter 10: parts, frames, garbage, rest; no program in sight. -/
import Derived.Test.YtcpahelmaejjeaaDoorStuffPlain
import Derived.Lib.IndexBytes
import Derived.Lib.IndexMore
namespace Go.Proofs.Stuff10

/-- Where the first zero byte stands (or the length). -/
def zi (l : List UInt8) : Nat := (l.takeWhile (fun b => b != 0)).length
theorem zi_le (l : List UInt8) : zi l ≤ l.length := (List.takeWhile_sublist _).length_le

/-- The parts of a stream, each with 'a zero byte stands behind it', with fuel. -/
def segs : Nat → List UInt8 → List (List UInt8 × Bool)
  | 0, _ => []
  | f + 1, l => if zi l < l.length then (l.take (zi l), true) :: segs f (l.drop (zi l + 1)) else [(l, false)]

theorem index_zero : ∀ (m : List UInt8), Lib.indexByte m 0 = if zi m < m.length then (zi m : Int) else -1
  | [] => rfl
  | b :: m => by
    unfold Lib.indexByte
    have ih := index_zero m
    unfold zi at *
    by_cases hb : b = 0
    · subst hb; simp
    · have hb' : (b == 0) = false := by simpa using hb
      have hn : (b != 0) = true := by simpa using hb
      rw [ih, hb', List.takeWhile_cons_of_pos (p := fun b => b != 0) hn]
      simp only [List.length_cons]
      by_cases h : (m.takeWhile (fun b => b != 0)).length < m.length
      · rw [if_pos h]
        have : ¬ (((m.takeWhile (fun b => b != 0)).length : Int) == -1) = true := by simp
        simp [this, h]
      · rw [if_neg h]
        have : ¬ ((m.takeWhile (fun b => b != 0)).length + 1 < m.length + 1) := by omega
        simp [this]
theorem cut_zero (l : List UInt8) : Lib.cut l [0] = if zi l < l.length then (l.take (zi l), l.drop (zi l + 1), true) else (l, [], false) := by
  unfold Lib.cut
  rw [Lib.index_one, index_zero]
  split <;> simp_all

/-- What a complete part does to what was found. -/
def found (a : List (List UInt8) × Nat) (p : List UInt8) : List (List UInt8) × Nat :=
  if p = [] then a else if 1300 < p.length ∨ (getS p).2.1 ≠ 0 then (a.1, a.2 + 1) else (a.1 ++ [(getS p).1], a.2)
/-- Frames, garbage and rest of a stream. -/
def splitF : Nat → List UInt8 → List (List UInt8) × Nat → (List (List UInt8) × Nat) × List UInt8
  | 0, _, a => (a, [])
  | f + 1, l, a => if zi l < l.length then splitF f (l.drop (zi l + 1)) (found a (l.take (zi l))) else (a, l)
def splitS (l : List UInt8) : (List (List UInt8) × Nat) × List UInt8 := splitF (l.length + 1) l ([], 0)

theorem found_count (a : List (List UInt8) × Nat) (p : List UInt8) : (found a p).1.length + (found a p).2 ≤ a.1.length + a.2 + 1 := by
  unfold found
  split
  · omega
  · split
    · show a.1.length + (a.2 + 1) ≤ _; omega
    · simp; omega
/-- What the complete parts pre leave. -/
def after (pre : List (List UInt8 × Bool)) (a : List (List UInt8) × Nat) : List (List UInt8) × Nat := pre.foldl (fun a x => found a x.1) a
theorem after_count : ∀ (pre : List (List UInt8 × Bool)) (a : List (List UInt8) × Nat), (after pre a).1.length + (after pre a).2 ≤ a.1.length + a.2 + pre.length
  | [], a => Nat.le_refl _
  | x :: pre, a => by
    have h1 := after_count pre (found a x.1)
    have h2 := found_count a x.1
    show (after pre (found a x.1)).1.length + (after pre (found a x.1)).2 ≤ _
    simp only [List.length_cons]; omega
theorem after_snoc (pre : List (List UInt8 × Bool)) (x : List UInt8 × Bool) (a : List (List UInt8) × Nat) : after (pre ++ [x]) a = found (after pre a) x.1 := by unfold after; rw [List.foldl_append]; rfl
theorem segs_le : ∀ (f : Nat) (l : List UInt8), (segs f l).length ≤ l.length + 1 ∧ ∀ x ∈ segs f l, x.1.length ≤ l.length
  | 0, l => ⟨by simp [segs], fun x h => by simp [segs] at h⟩
  | f + 1, l => by
    have hz := zi_le l
    rw [segs]
    split
    · rename_i h
      obtain ⟨h1, h2⟩ := segs_le f (l.drop (zi l + 1))
      rw [List.length_drop] at h1 h2
      refine ⟨by simp only [List.length_cons]; omega, fun x hx => ?_⟩
      rcases List.mem_cons.1 hx with rfl | hx
      · simp; omega
      · have := h2 x hx; omega
    · exact ⟨by simp, fun x hx => by simp at hx; subst hx; exact Nat.le_refl _⟩
theorem segs_end : ∀ (f : Nat) (l : List UInt8) (a : List (List UInt8) × Nat), l.length < f → ∃ pre p, segs f l = pre ++ [(p, false)] ∧ (∀ x ∈ pre, x.2 = true) ∧ splitF f l a = (after pre a, p)
  | 0, l, _, h => by omega
  | f + 1, l, a, h => by
    rw [segs, splitF]
    by_cases hz : zi l < l.length
    · rw [if_pos hz, if_pos hz]
      obtain ⟨pre, p, h1, h2, h3⟩ := segs_end f (l.drop (zi l + 1)) (found a (l.take (zi l))) (by rw [List.length_drop]; omega)
      refine ⟨(l.take (zi l), true) :: pre, p, by rw [h1]; rfl, fun x hx => ?_, h3⟩
      rcases List.mem_cons.1 hx with rfl | hx
      · rfl
      · exact h2 x hx
    · rw [if_neg hz, if_neg hz]
      exact ⟨[], l, rfl, by simp, rfl⟩
theorem ends_once : ∀ (pre pre' : List (List UInt8 × Bool)) (p : List UInt8) (x : List UInt8 × Bool) (post : List (List UInt8 × Bool)), pre ++ [(p, false)] = pre' ++ x :: post → (∀ y ∈ pre, y.2 = true) → (∀ y ∈ pre', y.2 = true) → x.2 = false → pre = pre' ∧ x = (p, false)
  | [], [], p, x, post, h, _, _, _ => by simp at h; exact ⟨rfl, h.1.symm⟩
  | [], y :: pre', p, x, post, h, _, h2, _ => by
    simp at h
  | y :: pre, [], p, x, post, h, h1, _, h3 => by
    simp only [List.cons_append, List.nil_append, List.cons.injEq] at h
    have := h1 y List.mem_cons_self
    rw [h.1, h3] at this; cases this
  | y :: pre, z :: pre', p, x, post, h, h1, h2, h3 => by
    simp only [List.cons_append, List.cons.injEq] at h
    obtain ⟨rfl, h⟩ := h
    obtain ⟨e1, e2⟩ := ends_once pre pre' p x post h (fun y hy => h1 y (List.mem_cons_of_mem _ hy)) (fun y hy => h2 y (List.mem_cons_of_mem _ hy)) h3
    exact ⟨by rw [e1], e2⟩
theorem split_stop (l : List UInt8) (pre : List (List UInt8 × Bool)) (x : List UInt8 × Bool) (post : List (List UInt8 × Bool)) (h : segs (l.length + 1) l = pre ++ x :: post) (hp : ∀ y ∈ pre, y.2 = true) (hx : x.2 = false) : splitS l = (after pre ([], 0), x.1) := by
  obtain ⟨pre0, p, h1, h2, h3⟩ := segs_end (l.length + 1) l ([], 0) (by omega)
  obtain ⟨rfl, rfl⟩ := ends_once pre0 pre p x post (by rw [← h1, h]) h2 hp hx
  exact h3
theorem split_never (l : List UInt8) (h : ∀ y ∈ segs (l.length + 1) l, y.2 = true) : False := by
  obtain ⟨pre0, p, h1, h2, h3⟩ := segs_end (l.length + 1) l ([], 0) (by omega)
  have := h (p, false) (by rw [h1]; simp)
  cases this
theorem splitF_fuel : ∀ (f g : Nat) (l : List UInt8) (a : List (List UInt8) × Nat), l.length < f → l.length < g → splitF f l a = splitF g l a
  | 0, _, _, _, h, _ => by omega
  | _ + 1, 0, _, _, _, h => by omega
  | f + 1, g + 1, l, a, h1, h2 => by
    rw [splitF, splitF]
    split
    · exact splitF_fuel f g _ _ (by rw [List.length_drop]; omega) (by rw [List.length_drop]; omega)
    · rfl
def splitG (l : List UInt8) (a : List (List UInt8) × Nat) : (List (List UInt8) × Nat) × List UInt8 := splitF (l.length + 1) l a
theorem zi_all : ∀ (l : List UInt8) (k : Nat), (l.take k).all (fun b => b != 0) = true → l[k]? = some 0 → zi l = k
  | [], k, _, h => by simp at h
  | b :: l, 0, _, h => by simp at h; subst h; rfl
  | b :: l, k + 1, h1, h2 => by
    simp only [List.take_succ_cons, List.all_cons, Bool.and_eq_true] at h1
    have := zi_all l k h1.2 (by simpa using h2)
    unfold zi at *
    rw [List.takeWhile_cons_of_pos (p := fun b => b != 0) h1.1, List.length_cons, this]
theorem zi_full : ∀ (l : List UInt8), l.all (fun b => b != 0) = true → zi l = l.length
  | [], _ => rfl
  | b :: l, h => by
    simp only [List.all_cons, Bool.and_eq_true] at h
    have := zi_full l h.2
    unfold zi at *
    rw [List.takeWhile_cons_of_pos (p := fun b => b != 0) h.1, List.length_cons, this, List.length_cons]
theorem splitG_zero {l : List UInt8} {k : Nat} (a : List (List UInt8) × Nat) (h1 : (l.take k).all (fun b => b != 0) = true) (h2 : l[k]? = some 0) : splitG l a = splitG (l.drop (k + 1)) (found a (l.take k)) := by
  have hk : k < l.length := by
    rcases Nat.lt_or_ge k l.length with h | h
    · exact h
    · rw [List.getElem?_eq_none h] at h2; cases h2
  have hz := zi_all l k h1 h2
  unfold splitG
  rw [splitF, hz, if_pos hk]
  exact splitF_fuel _ _ _ _ (by rw [List.length_drop]; omega) (by omega)
theorem splitG_none {l : List UInt8} (a : List (List UInt8) × Nat) (h1 : l.all (fun b => b != 0) = true) : splitG l a = (a, l) := by
  have hz := zi_full l h1
  unfold splitG
  rw [splitF, hz, if_neg (by omega)]
theorem splitS_G (l : List UInt8) : splitS l = splitG l ([], 0) := rfl
/-- What Split answers. -/
def splitR (l : List UInt8) : ((List (List UInt8) × Nat) × List UInt8) × Nat := if 20000 < l.length then ((([], 0), []), 4) else (splitS l, 0)
end Go.Proofs.Stuff10
