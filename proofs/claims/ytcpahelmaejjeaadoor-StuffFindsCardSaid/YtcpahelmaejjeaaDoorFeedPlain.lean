/- The plain law of feeding a stream, chapter 10: states, pieces, what is behind garbage; no program in sight. -/
import Derived.Test.YtcpahelmaejjeaaDoorStreamPlain
namespace Go.Proofs.Stuff10

/-- The state of a reader: what is held, whether it is over. -/
abbrev St := List UInt8 × Bool
def nz (l : List UInt8) : Bool := l.all fun b => b != 0
def checkF (x : St) : Nat := if (decide (1300 < x.1.length) || (!nz x.1 || (x.2 && !x.1.isEmpty))) = true then 12 else 0
def heldF (z : List UInt8) (x : St) : List UInt8 := if x.2 = true then z else x.1
def nextF (r : List UInt8) : St := if 1300 < r.length then ([], true) else (r, false)
def bad0 (e : Nat) : ((List (List UInt8) × Nat) × St) × Nat := ((([], 0), ([], false)), e)
def feedS (z : List UInt8) (x : St) (s : List UInt8) : (List (List UInt8) × Nat) × St := ((splitS (heldF z x ++ s)).1, nextF (splitS (heldF z x ++ s)).2)
def feedF (x : St) (s : List UInt8) : ((List (List UInt8) × Nat) × St) × Nat :=
  if checkF x ≠ 0 then bad0 (checkF x) else if 20000 < s.length then bad0 4 else (feedS (List.replicate 1301 1) x s, 0)

theorem nz_take {l : List UInt8} (h : nz l = true) (k : Nat) : nz (l.take k) = true := by
  unfold nz at *
  rw [List.all_eq_true] at *
  exact fun x hx => h x (List.mem_of_mem_take hx)
theorem nz_append (a b : List UInt8) : nz (a ++ b) = (nz a && nz b) := by unfold nz; rw [List.all_append]
theorem nz_zi (l : List UInt8) : nz l = !decide (zi l < l.length) := by
  rcases Nat.lt_or_ge (zi l) l.length with h | h
  · rw [decide_eq_true h]
    cases hn : nz l with
    | false => rfl
    | true => have := zi_full l hn; omega
  · rw [decide_eq_false (by omega)]
    unfold nz
    have : ∀ (l : List UInt8), l.length ≤ zi l → l.all (fun b => b != 0) = true := by
      intro l
      induction l with
      | nil => intro _; rfl
      | cons b l ih =>
        intro h
        unfold zi at h
        by_cases hb : b = 0
        · subst hb; simp at h
        · rw [List.takeWhile_cons_of_pos (p := fun b => b != 0) (by simpa using hb), List.length_cons, List.length_cons] at h
          rw [List.all_cons, ih (by unfold zi; omega)]
          simpa using hb
    rw [this l h]; rfl
/-- Where a stream has its first zero byte. -/
theorem first_zero : ∀ (l : List UInt8), nz l = true ∨ ∃ k, nz (l.take k) = true ∧ l[k]? = some 0
  | [] => .inl rfl
  | b :: l => by
    by_cases hb : b = 0
    · subst hb; exact .inr ⟨0, rfl, rfl⟩
    · rcases first_zero l with h | ⟨k, h1, h2⟩
      · left
        unfold nz at *
        rw [List.all_cons, h]; simpa using hb
      · refine .inr ⟨k + 1, ?_, by simpa using h2⟩
        unfold nz at *
        rw [List.take_succ_cons, List.all_cons, h1]; simpa using hb
theorem found_long (a : List (List UInt8) × Nat) (p : List UInt8) (h : 1300 < p.length) : found a p = (a.1, a.2 + 1) := by
  unfold found
  rw [if_neg (by rintro rfl; simp at h), if_pos (.inl h)]
theorem splitG_pre {z s : List UInt8} (a : List (List UInt8) × Nat) {k : Nat} (hz : nz z = true) (h1 : nz (s.take k) = true) (h2 : s[k]? = some 0) :
    splitG (z ++ s) a = splitG (s.drop (k + 1)) (found a (z ++ s.take k)) := by
  have e1 : (z ++ s).take (z.length + k) = z ++ s.take k := by rw [List.take_append, List.take_of_length_le (by omega)]; congr 2; omega
  have e2 : (z ++ s).drop (z.length + k + 1) = s.drop (k + 1) := by rw [List.drop_append, List.drop_of_length_le (by omega), List.nil_append]; congr 1; omega
  have := splitG_zero (l := z ++ s) (k := z.length + k) a (by rw [e1]; exact (nz_append z (s.take k)).trans (by rw [hz, h1]; rfl)) (by rw [List.getElem?_append_right (by omega)]; rw [show z.length + k - z.length = k by omega]; exact h2)
  rw [this, e1, e2]
/-- What is held of a piece that is too long does not matter. -/
theorem split_over {z z' : List UInt8} (hz : nz z = true) (hz' : nz z' = true) (h : 1300 < z.length) (h' : 1300 < z'.length) (s : List UInt8) (a : List (List UInt8) × Nat) :
    (splitG (z ++ s) a).1 = (splitG (z' ++ s) a).1 ∧ nextF (splitG (z ++ s) a).2 = nextF (splitG (z' ++ s) a).2 := by
  rcases first_zero s with h1 | ⟨k, h1, h2⟩
  · rw [splitG_none a ((nz_append z s).trans (by rw [hz, h1]; rfl)), splitG_none a ((nz_append z' s).trans (by rw [hz', h1]; rfl))]
    refine ⟨rfl, ?_⟩
    unfold nextF
    rw [if_pos (by simp; omega), if_pos (by simp; omega)]
  · rw [splitG_pre a hz h1 h2, splitG_pre a hz' h1 h2, found_long _ _ (by simp; omega), found_long _ _ (by simp; omega)]
    exact ⟨rfl, rfl⟩
theorem nz_replicate (n : Nat) (b : UInt8) (h : b ≠ 0) : nz (List.replicate n b) = true := by
  unfold nz
  rw [List.all_eq_true]
  intro x hx
  rw [(List.mem_replicate.1 hx).2]; simpa using h
theorem long_replicate (b : UInt8) : 1300 < (List.replicate 1301 b).length := by rw [List.length_replicate]; omega
/-- The reference's filling serves as well. -/
theorem feedS_any (x : St) (s : List UInt8) (b c : UInt8) (hb : b ≠ 0) (hc : c ≠ 0) : feedS (List.replicate 1301 b) x s = feedS (List.replicate 1301 c) x s := by
  unfold feedS heldF
  cases x.2 with
  | false => rfl
  | true =>
    simp only [if_true]
    obtain ⟨e1, e2⟩ := split_over (nz_replicate 1301 b hb) (nz_replicate 1301 c hc) (long_replicate b) (long_replicate c) s ([], 0)
    rw [splitS_G, splitS_G, e1, e2]
/-- The rest of a stream holds no zero byte. -/
theorem splitG_rest : ∀ (n : Nat) (l : List UInt8), l.length ≤ n → ∀ (a : List (List UInt8) × Nat), nz (splitG l a).2 = true ∧ (splitG l a).2.length ≤ l.length
  | n, l, hn, a => by
    rcases first_zero l with h | ⟨k, h1, h2⟩
    · rw [splitG_none a h]; exact ⟨h, Nat.le_refl _⟩
    · have hk : k < l.length := by
        rcases Nat.lt_or_ge k l.length with h | h
        · exact h
        · rw [List.getElem?_eq_none h] at h2; cases h2
      rw [splitG_zero a h1 h2]
      cases n with
      | zero => omega
      | succ n =>
        obtain ⟨q1, q2⟩ := splitG_rest n (l.drop (k + 1)) (by rw [List.length_drop]; omega) (found a (l.take k))
        exact ⟨q1, by rw [List.length_drop] at q2; omega⟩
/-- A stream in two pieces. -/
theorem splitG_append : ∀ (n : Nat) (l : List UInt8), l.length ≤ n → ∀ (t : List UInt8) (a : List (List UInt8) × Nat), splitG (l ++ t) a = splitG ((splitG l a).2 ++ t) (splitG l a).1
  | n, l, hn, t, a => by
    rcases first_zero l with h | ⟨k, h1, h2⟩
    · rw [splitG_none a h]
    · have hk : k < l.length := by
        rcases Nat.lt_or_ge k l.length with h | h
        · exact h
        · rw [List.getElem?_eq_none h] at h2; cases h2
      rw [splitG_zero a h1 h2, splitG_zero (l := l ++ t) (k := k) a (by rw [List.take_append_of_le_length (by omega)]; exact h1) (by rw [List.getElem?_append_left hk]; exact h2), List.take_append_of_le_length (by omega), List.drop_append_of_le_length (by omega)]
      cases n with
      | zero => omega
      | succ n => exact splitG_append n (l.drop (k + 1)) (by rw [List.length_drop]; omega) t _
theorem found_shift (a : List (List UInt8) × Nat) (p : List UInt8) : found a p = (a.1 ++ (found ([], 0) p).1, a.2 + (found ([], 0) p).2) := by
  unfold found
  split
  · simp
  · split
    · simp
    · simp
/-- What was found before stands ahead. -/
theorem splitG_shift : ∀ (n : Nat) (l : List UInt8), l.length ≤ n → ∀ (a : List (List UInt8) × Nat), splitG l a = ((a.1 ++ (splitG l ([], 0)).1.1, a.2 + (splitG l ([], 0)).1.2), (splitG l ([], 0)).2)
  | n, l, hn, a => by
    rcases first_zero l with h | ⟨k, h1, h2⟩
    · rw [splitG_none a h, splitG_none _ h]; simp
    · have hk : k < l.length := by
        rcases Nat.lt_or_ge k l.length with h | h
        · exact h
        · rw [List.getElem?_eq_none h] at h2; cases h2
      rw [splitG_zero a h1 h2, splitG_zero ([], 0) h1 h2]
      cases n with
      | zero => omega
      | succ n =>
        have ih := splitG_shift n (l.drop (k + 1)) (by rw [List.length_drop]; omega)
        rw [ih (found a (l.take k)), ih (found ([], 0) (l.take k)), found_shift a (l.take k)]
        simp [Nat.add_assoc]
theorem nextF_state (r : List UInt8) (h : nz r = true) : checkF (nextF r) = 0 := by
  unfold nextF
  split
  · rfl
  · rename_i h1
    unfold checkF
    rw [decide_eq_false h1, h]; rfl
/-- Feeding in pieces: the next piece behind what was fed. -/
theorem feed_next (l t : List UInt8) :
    splitS (l ++ t) = ((((splitS l).1.1 ++ (feedS (List.replicate 1301 1) (nextF (splitS l).2) t).1.1, (splitS l).1.2 + (feedS (List.replicate 1301 1) (nextF (splitS l).2) t).1.2)), (splitS (l ++ t)).2) ∧
    nextF (splitS (l ++ t)).2 = (feedS (List.replicate 1301 1) (nextF (splitS l).2) t).2 := by
  have hr := (splitG_rest _ l (Nat.le_refl _) ([], 0)).1
  rw [splitS_G (l ++ t), splitG_append _ l (Nat.le_refl _) t ([], 0), splitG_shift _ _ (Nat.le_refl _) (splitG l ([], 0)).1, ← splitS_G l]
  rw [← splitS_G l] at hr
  have key : (splitG ((splitS l).2 ++ t) ([], 0)).1 = (feedS (List.replicate 1301 1) (nextF (splitS l).2) t).1 ∧ nextF (splitG ((splitS l).2 ++ t) ([], 0)).2 = (feedS (List.replicate 1301 1) (nextF (splitS l).2) t).2 := by
    generalize (splitS l).2 = r at hr
    unfold feedS heldF nextF
    by_cases h : 1300 < r.length
    · rw [if_pos h]
      simp only [if_true]
      have := split_over hr (nz_replicate 1301 1 (by decide)) h (long_replicate 1) t ([], 0)
      rw [splitS_G]
      exact this
    · rw [if_neg h]
      simp only [Bool.false_eq_true, if_false]
      rw [splitS_G]
      exact ⟨rfl, rfl⟩
  rw [key.1, ← key.2]
  exact ⟨rfl, rfl⟩
theorem feed_start (s : List UInt8) : feedS (List.replicate 1301 1) ([], false) s = ((splitS s).1, nextF (splitS s).2) := rfl
end Go.Proofs.Stuff10
