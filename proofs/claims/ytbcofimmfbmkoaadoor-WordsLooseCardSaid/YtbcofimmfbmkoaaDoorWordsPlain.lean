/- The plain law of words, chapter 3: names, numbers, forms, bodies, words, rows; no program in sight. -/
namespace Go.Proofs.Words3

def letter (c : UInt8) : Bool := decide (97 ≤ c) && decide (c ≤ 122)
def digit (c : UInt8) : Bool := decide (48 ≤ c) && decide (c ≤ 57)
def cont (c : UInt8) : Bool := letter c || (c == 45 || digit c)
def nmGo : List UInt8 → Bool
  | [] => true
  | c :: r => letter c && r.all cont
def nameB (s : List UInt8) : Bool := nmGo s && (decide (1 ≤ s.length) && decide (s.length ≤ 20))
theorem nmGo_snoc (l : List UInt8) (c : UInt8) : nmGo (l ++ [c]) = (nmGo l && (if l = [] then letter c else cont c)) := by
  cases l with
  | nil => simp [nmGo]
  | cons d r => simp [nmGo, Bool.and_assoc]
theorem nmGo_pre (l r : List UInt8) (h : nmGo (l ++ r) = true) : nmGo l = true := by
  cases l with
  | nil => rfl
  | cons d l => simp only [List.cons_append, nmGo, List.all_append, Bool.and_eq_true] at h ⊢; exact ⟨h.1, h.2.1⟩

def numGo : List UInt8 → Nat → Option Nat
  | [], n => some n
  | c :: r, n => if digit c = true then (if 1125899906842624 < 10 * n + (c.toNat - 48) then none else numGo r (10 * n + (c.toNat - 48))) else none
def numF (s : List UInt8) : Option Nat :=
  match s with
  | [] => none
  | c :: r => if c = 48 ∧ r ≠ [] then none else numGo (c :: r) 0

def openB (c : UInt8) : Bool := decide (33 ≤ c) && (decide (c ≤ 126) && (c != 34 && (c != 61 && c != 92)))
def bareB (s : List UInt8) : Bool := s.all openB && (match s with | [] => false | c :: _ => c != 35)

def hexD (n : Nat) : UInt8 := UInt8.ofNat (if n < 10 then 48 + n else 87 + n)
def hexV (c : UInt8) : Option Nat := if digit c = true then some (c.toNat - 48) else if (decide (97 ≤ c) && decide (c ≤ 102)) = true then some (c.toNat - 87) else none
def escB (c : UInt8) : List UInt8 :=
  if c = 10 then [92, 110] else if c = 34 ∨ c = 92 then [92, c] else if 32 ≤ c ∧ c < 127 then [c] else [92, 120, hexD (c.toNat / 16), hexD (c.toNat % 16)]
def quotedF (s : List UInt8) : List UInt8 := 34 :: (s.flatMap escB ++ [34])
def quoteF (s : List UInt8) : List UInt8 := if bareB s = true then s else quotedF s

/-- What follows a backslash: the byte that is meant, and how many bytes there are. -/
def escL : List UInt8 → UInt8 × Nat
  | [] => (0, 0)
  | d :: r => if d = 34 ∨ d = 92 then (d, 1) else if d = 110 then (10, 1) else if d = 120 then
      (match r with
        | a :: b :: _ => (match hexV a, hexV b with | some i, some k => (UInt8.ofNat (16 * i + k), 3) | _, _ => (0, 0))
        | _ => (0, 0)) else (0, 0)
def pieceL : List UInt8 → UInt8 × Nat
  | [] => (0, 0)
  | c :: r => if c < 32 ∨ 126 < c ∨ c = 34 then (0, 0) else if c ≠ 92 then (c, 1) else if (escL r).2 = 0 then (0, 0) else ((escL r).1, (escL r).2 + 1)
def qGo : Nat → List UInt8 → List UInt8 → Option (List UInt8 × List UInt8)
  | 0, _, _ => none
  | f + 1, acc, s => if s.head? = some 34 then some (acc, s.drop 1) else if (pieceL s).2 = 0 then none else qGo f (acc ++ [(pieceL s).1]) (s.drop (pieceL s).2)
def quotedL (s : List UInt8) : Option (List UInt8 × List UInt8) := qGo (s.length + 1) [] s

theorem escL_le (r : List UInt8) : (escL r).2 ≤ r.length := by
  unfold escL
  split
  · exact Nat.zero_le _
  · rename_i d r
    split
    · simp
    · split
      · simp
      · split
        · split
          · split
            · simp
            · simp
          · simp
        · simp
theorem pieceL_le (s : List UInt8) : (pieceL s).2 ≤ s.length := by
  unfold pieceL
  split
  · exact Nat.zero_le _
  · rename_i c r
    have := escL_le r
    split
    · simp
    · split
      · simp
      · split
        · simp
        · simp; omega
theorem qGo_fuel : ∀ (f g : Nat) (acc s : List UInt8), s.length < f → s.length < g → qGo f acc s = qGo g acc s
  | 0, _, _, _, h, _ => absurd h (by omega)
  | _, 0, _, _, _, h => absurd h (by omega)
  | f + 1, g + 1, acc, s, h1, h2 => by
    unfold qGo
    have hp := pieceL_le s
    split
    · rfl
    · split
      · rfl
      · rename_i h
        exact qGo_fuel f g _ _ (by rw [List.length_drop]; omega) (by rw [List.length_drop]; omega)
theorem qGo_rest : ∀ (f : Nat) (acc s : List UInt8) (t r : List UInt8), qGo f acc s = some (t, r) → ∃ k, r = s.drop k ∧ 1 ≤ k ∧ k ≤ s.length ∧ t.length + 1 ≤ acc.length + k
  | 0, _, _, _, _, h => by cases h
  | f + 1, acc, s, t, r, h => by
    unfold qGo at h
    have hp := pieceL_le s
    split at h
    · rename_i h1
      cases h
      refine ⟨1, rfl, Nat.le_refl _, ?_, by omega⟩
      cases s with
      | nil => cases h1
      | cons => simp
    · split at h
      · cases h
      · rename_i h2
        obtain ⟨k, h3, h4, h5, h6⟩ := qGo_rest f _ _ t r h
        rw [List.length_drop] at h5
        rw [List.length_append] at h6
        simp only [List.length_cons, List.length_nil] at h6
        exact ⟨(pieceL s).2 + k, by rw [h3, List.drop_drop], by omega, by omega, by omega⟩

/-- A body: its text, whether it is one, what stands behind it. -/
structure Body where
  text : List UInt8
  ok : Bool
  rest : List UInt8
def tw (p : UInt8 → Bool) (s : List UInt8) : Nat := (s.takeWhile p).length
theorem tw_le (p : UInt8 → Bool) (s : List UInt8) : tw p s ≤ s.length := by
  unfold tw
  have := List.length_append (as := s.takeWhile p) (bs := s.dropWhile p)
  rw [List.takeWhile_append_dropWhile] at this; omega
theorem tw_at (p : UInt8 → Bool) : ∀ (s : List UInt8) (h : tw p s < s.length), p s[tw p s] = false
  | [], h => by simp [tw] at h
  | c :: s, h => by
    unfold tw at h ⊢
    cases hc : p c with
    | false => simp [hc]
    | true =>
      simp only [List.takeWhile_cons_of_pos hc, List.length_cons, List.getElem_cons_succ] at h ⊢
      exact tw_at p s (by unfold tw; omega)
theorem tw_before (p : UInt8 → Bool) : ∀ (s : List UInt8) (k : Nat) (h : k < s.length), k < tw p s → p s[k] = true
  | [], k, h, _ => by simp at h
  | c :: s, k, h, hk => by
    unfold tw at hk
    cases hc : p c with
    | false => simp [hc] at hk
    | true =>
      rw [List.takeWhile_cons_of_pos hc, List.length_cons] at hk
      match k, h, hk with
      | 0, _, _ => simpa using hc
      | k + 1, h, hk => exact tw_before p s k (by simpa using h) (by unfold tw; omega)
theorem tw_eq (p : UInt8 → Bool) (s : List UInt8) (k : Nat) (hk : k ≤ s.length) (hb : ∀ h : k < s.length, p s[k] = false) (hn : ∀ (j : Nat) (hj : j < s.length), j < k → p s[j] = true) : tw p s = k := by
  have hl := tw_le p s
  rcases Nat.lt_trichotomy (tw p s) k with h1 | h1 | h1
  · have := tw_at p s (by omega); rw [hn _ (by omega) h1] at this; cases this
  · exact h1
  · have := tw_before p s k (by omega) h1; rw [hb (by omega)] at this; cases this
def plainLen (s : List UInt8) : Nat := tw openB s
def bodyF (s : List UInt8) : Body :=
  if s.head? = some 34 then (match quotedL (s.drop 1) with | some (t, r) => ⟨t, true, r⟩ | none => ⟨[], false, []⟩)
  else ⟨s.take (plainLen s), bareB (s.take (plainLen s)), s.drop (plainLen s)⟩
theorem plainLen_le (s : List UInt8) : plainLen s ≤ s.length := tw_le _ _
theorem bareB_nil : bareB [] = false := rfl
theorem bodyF_rest (s : List UInt8) (h : (bodyF s).ok = true) : ∃ k, (bodyF s).rest = s.drop k ∧ 1 ≤ k ∧ k ≤ s.length ∧ (bodyF s).text.length ≤ k := by
  unfold bodyF at h ⊢
  split at h
  · rename_i h1
    rw [if_pos h1]
    split at h
    · rename_i t r hq
      obtain ⟨k, h2, h3, h4, h5⟩ := qGo_rest _ _ _ _ _ hq
      rw [List.length_drop] at h4
      cases s with
      | nil => cases h1
      | cons c s =>
        simp only [List.length_cons, List.length_nil, Nat.add_sub_cancel] at h4 h5 ⊢
        exact ⟨1 + k, by rw [h2, List.drop_drop], by omega, by omega, by omega⟩
    · cases h
  · rename_i h1
    rw [if_neg h1]
    refine ⟨plainLen s, rfl, ?_, plainLen_le s, by rw [List.length_take]; omega⟩
    rcases Nat.eq_zero_or_pos (plainLen s) with h2 | h2
    · rw [h2] at h; simp [bareB_nil] at h
    · exact h2

def idx (b : UInt8) (s : List UInt8) : Nat := tw (fun c => c != b) s
theorem idx_le (b : UInt8) (s : List UInt8) : idx b s ≤ s.length := tw_le _ _
theorem idx_at (b : UInt8) (s : List UInt8) (h : idx b s < s.length) : s[idx b s] = b := by
  have := tw_at _ s h; rw [bne_eq_false_iff_eq] at this; exact this
theorem idx_before (b : UInt8) (s : List UInt8) (k : Nat) (h : k < s.length) (hk : k < idx b s) : s[k] ≠ b := by
  have := tw_before _ s k h hk; simpa using this
theorem idx_eq (b : UInt8) (s : List UInt8) (k : Nat) (h : k ≤ s.length) (hb : ∀ h : k < s.length, s[k] = b) (hn : ∀ (j : Nat) (hj : j < s.length), j < k → s[j] ≠ b) : idx b s = k :=
  tw_eq _ s k h (fun h => by simpa using hb h) (fun j hj h => by simpa using hn j hj h)

structure Wd where
  at_ : Int
  key : List UInt8
  text : List UInt8
structure Rw where
  at_ : Int
  words : List Wd
/-- A word: its key, its text, whether it is one, what stands behind it. -/
structure WordR where
  key : List UInt8
  body : Body
def hasKey (s : List UInt8) : Bool := decide (idx 61 s < s.length) && nameB (s.take (idx 61 s))
def keyOf (s : List UInt8) : List UInt8 := if hasKey s = true then s.take (idx 61 s) else []
def fromOf (s : List UInt8) : List UInt8 := if hasKey s = true then s.drop (idx 61 s + 1) else s
def endB (r : List UInt8) : Bool := (match r with | [] => true | c :: _ => c == 32)
def wordF (s : List UInt8) : WordR := ⟨keyOf s, ⟨(bodyF (fromOf s)).text, (bodyF (fromOf s)).ok && endB (bodyF (fromOf s)).rest, (bodyF (fromOf s)).rest⟩⟩
theorem fromOf_drop (s : List UInt8) : ∃ k, fromOf s = s.drop k ∧ k ≤ s.length := by
  unfold fromOf hasKey
  split
  · rename_i h
    rw [Bool.and_eq_true, decide_eq_true_eq] at h
    exact ⟨_, rfl, h.1⟩
  · exact ⟨0, by simp, Nat.zero_le _⟩
theorem wordF_rest (s : List UInt8) (h : (wordF s).body.ok = true) : ∃ k, (wordF s).body.rest = s.drop k ∧ 1 ≤ k ∧ k ≤ s.length ∧ (wordF s).body.text.length ≤ k := by
  unfold wordF at *
  dsimp only at *
  rw [Bool.and_eq_true] at h
  obtain ⟨k, h1, h2, h3, h4⟩ := bodyF_rest _ h.1
  obtain ⟨j, h5, h6⟩ := fromOf_drop s
  rw [h5, List.length_drop] at h3
  refine ⟨j + k, by rw [h1, h5, List.drop_drop], by omega, by omega, by omega⟩

/-- The words of a line, from a place on; the last one is false where it is not built as it has to be. -/
def wordsGo : Nat → Nat → List UInt8 → List (Wd × Bool)
  | 0, _, _ => []
  | f + 1, n, s => match s with
    | [] => []
    | c :: r => if c = 32 then wordsGo f (n + 1) r else if c = 35 then [] else
      if (wordF (c :: r)).body.ok = true then (⟨n, (wordF (c :: r)).key, (wordF (c :: r)).body.text⟩, true) :: wordsGo f (n + ((c :: r).length - (wordF (c :: r)).body.rest.length)) (wordF (c :: r)).body.rest
      else [(⟨n, (wordF (c :: r)).key, (wordF (c :: r)).body.text⟩, false)]
theorem wordsGo_fuel : ∀ (f g n : Nat) (s : List UInt8), s.length < f → s.length < g → wordsGo f n s = wordsGo g n s
  | 0, _, _, _, h, _ => absurd h (by omega)
  | _, 0, _, _, _, h => absurd h (by omega)
  | f + 1, g + 1, n, [], _, _ => rfl
  | f + 1, g + 1, n, c :: r, h1, h2 => by
    simp only [wordsGo]
    rw [List.length_cons] at h1 h2
    split
    · exact wordsGo_fuel f g _ _ (by omega) (by omega)
    · split
      · rfl
      · split
        · rename_i h3
          obtain ⟨k, h4, h5, h6, _⟩ := wordF_rest _ h3
          rw [wordsGo_fuel f g _ (wordF (c :: r)).body.rest (by rw [h4, List.length_drop, List.length_cons]; omega) (by rw [h4, List.length_drop, List.length_cons]; omega)]
        · rfl
def wordsF (line : List UInt8) : List (Wd × Bool) := wordsGo (line.length + 1) 0 line

/-- The words ahead of the first that is not built as it has to be, and that one's place. -/
def rowOf : List (Wd × Bool) → List Wd × Option Nat
  | [] => ([], none)
  | (w, true) :: l => (w :: (rowOf l).1, (rowOf l).2)
  | (w, false) :: _ => ([], some w.at_.toNat)
def rowF (line : List UInt8) : List Wd × Option Nat := rowOf (wordsF line)

def linesGo : Nat → List UInt8 → List (List UInt8)
  | 0, _ => []
  | f + 1, s => if idx 10 s < s.length then s.take (idx 10 s) :: linesGo f (s.drop (idx 10 s + 1)) else [s]
def linesF (s : List UInt8) : List (List UInt8) := linesGo (s.length + 1) s
theorem linesGo_fuel : ∀ (f g : Nat) (s : List UInt8), s.length < f → s.length < g → linesGo f s = linesGo g s
  | 0, _, _, h, _ => absurd h (by omega)
  | _, 0, _, _, h => absurd h (by omega)
  | f + 1, g + 1, s, h1, h2 => by
    unfold linesGo
    split
    · rw [linesGo_fuel f g _ (by rw [List.length_drop]; omega) (by rw [List.length_drop]; omega)]
    · rfl

def shiftW (n : Nat) (w : Wd) : Wd := ⟨w.at_ + n, w.key, w.text⟩
/-- The rows of lines: the rows, the error and its place. -/
structure RowsR where
  rows : List Rw
  err : Nat
  place : Nat
def addRow (n : Nat) (ws : List Wd) (acc : List Rw) : List Rw := if ws = [] then acc else acc ++ [⟨n, ws.map (shiftW n)⟩]
def rowsGo : Nat → List (List UInt8) → List Rw → RowsR
  | _, [], acc => ⟨acc, 0, 0⟩
  | n, l :: ls, acc => if 1000 < l.length then ⟨[], 4, n⟩ else (match (rowF l).2 with | some p => ⟨[], 3, n + p⟩ | none => rowsGo (n + l.length + 1) ls (addRow n (rowF l).1 acc))
def rowsF (s : List UInt8) : RowsR := if 20000 < s.length then ⟨[], 4, 20000⟩ else rowsGo 0 (linesF s) []

def formW (w : Wd) : List UInt8 := (if w.key = [] then [] else w.key ++ [61]) ++ quoteF w.text
def keyBad (w : Wd) : Bool := !w.key.isEmpty && !nameB w.key
def joinSp : List (List UInt8) → List UInt8
  | [] => []
  | [x] => x
  | x :: y :: l => x ++ 32 :: joinSp (y :: l)
def lineF (ws : List Wd) : List UInt8 := joinSp (ws.map formW)
structure TextR where
  text : List UInt8
  err : Nat
def textGo : List Rw → List UInt8 → TextR
  | [], out => ⟨out, 0⟩
  | r :: rs, out => if r.words = [] then ⟨[], 3⟩ else if r.words.any keyBad = true then ⟨[], 6⟩ else
    if 1000 < (lineF r.words).length ∨ 20000 < (out ++ (lineF r.words ++ [10])).length then ⟨[], 4⟩ else textGo rs (out ++ (lineF r.words ++ [10]))
def textF (rows : List Rw) : TextR := textGo rows []
theorem joinSp_snoc (l : List (List UInt8)) (x : List UInt8) : joinSp (l ++ [x]) = (if l = [] then x else joinSp l ++ 32 :: x) := by
  induction l with
  | nil => rfl
  | cons a l ih =>
    cases l with
    | nil => rfl
    | cons b l =>
      simp only [List.cons_append] at ih ⊢
      simp only [joinSp, ih]
      simp

def unquoteF (s : List UInt8) : TextR := if ((bodyF s).ok && (bodyF s).rest.isEmpty) = true then ⟨(bodyF s).text, 0⟩ else ⟨[], 3⟩
def valueF (ws : List Wd) (key : List UInt8) : TextR :=
  if nameB key = false then ⟨[], 6⟩ else match ws.filter (fun w => w.key == key) with | [] => ⟨[], 8⟩ | [w] => ⟨w.text, 0⟩ | _ => ⟨[], 9⟩
end Go.Proofs.Words3
