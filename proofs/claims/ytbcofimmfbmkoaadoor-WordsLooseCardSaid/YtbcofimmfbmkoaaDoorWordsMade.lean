/- Chapter 3: rows made of numbers, and what may be put in between; no program in sight. -/
import Derived.Test.YtbcofimmfbmkoaaDoorWordsLaw
namespace Go.Proofs.Words3

def madeText : Nat → List UInt8
  | 0 => [97] | 1 => [] | 2 => [98, 32, 99] | 3 => [35] | 4 => [120, 61, 121] | 5 => [34] | 6 => [49, 50] | _ => [10]
def madeKey : Nat → List UInt8
  | 0 => [107] | 1 => [105, 100] | _ => [110, 45, 49]
def madeWord (m : Nat) : Wd := ⟨0, if m % 3 = 0 then madeKey (m / 8 % 3) else [], madeText (m % 8)⟩
def madeWords (n : Nat) : Nat → List Wd
  | 0 => []
  | k + 1 => madeWords n k ++ [madeWord (n / 4 + 7 * k)]
def madeRow (n : Nat) : Rw := ⟨0, madeWords n (n % 4 + 1)⟩
theorem madeText_form : ∀ i : Fin 8, (quoteF (madeText i.1)).length ≤ 6 := by decide
theorem madeKey_ok : ∀ i : Fin 3, nameB (madeKey i.1) = true ∧ (madeKey i.1).length ≤ 3 := by decide
theorem madeWord_ok (m : Nat) : keyBad (madeWord m) = false ∧ (formW (madeWord m)).length ≤ 10 := by
  have h1 := madeText_form ⟨m % 8, by omega⟩
  have h2 := madeKey_ok ⟨m / 8 % 3, by omega⟩
  dsimp only at h1 h2
  unfold keyBad formW madeWord
  dsimp only
  split
  · rw [h2.1]
    refine ⟨by simp, ?_⟩
    split
    · simp; omega
    · simp only [List.length_append, List.length_cons, List.length_nil]; omega
  · exact ⟨rfl, by simp; omega⟩
theorem madeWords_length (n k : Nat) : (madeWords n k).length = k := by
  induction k with
  | zero => rfl
  | succ k ih => unfold madeWords; simp [ih]
theorem madeWords_ok (n k : Nat) : okW (madeWords n k) = true ∧ (lineF (madeWords n k)).length ≤ 11 * k := by
  induction k with
  | zero => exact ⟨rfl, by simp [madeWords, lineF, joinSp]⟩
  | succ k ih =>
    obtain ⟨h1, h2⟩ := madeWord_ok (n / 4 + 7 * k)
    unfold madeWords
    unfold okW lineF at *
    rw [List.all_append, ih.1, List.map_append, List.map_singleton, joinSp_snoc]
    refine ⟨by simp [h1], ?_⟩
    split
    · omega
    · rw [List.length_append, List.length_cons]; omega
theorem madeRow_ok (n : Nat) : (madeRow n).words ≠ [] ∧ okW (madeRow n).words = true ∧ (lineF (madeRow n).words).length ≤ 100 := by
  obtain ⟨h1, h2⟩ := madeWords_ok n (n % 4 + 1)
  refine ⟨fun e => ?_, h1, ?_⟩
  · have := congrArg List.length e
    rw [show (madeRow n).words = madeWords n (n % 4 + 1) from rfl, madeWords_length] at this
    simp at this
  · show (lineF (madeWords n (n % 4 + 1))).length ≤ 100
    omega
theorem made_text (l : List Nat) (h : l.length ≤ 8) : textF (l.map madeRow) = ⟨(l.map madeRow).flatMap (fun r => lineF r.words ++ [10]), 0⟩ := by
  unfold textF
  rw [textGo_short _ _ (fun r hr => by obtain ⟨n, _, rfl⟩ := List.mem_map.1 hr; exact madeRow_ok n) (by simp; omega)]
  simp
theorem line_text (n : Nat) : textF [madeRow n] = ⟨lineF (madeRow n).words ++ [10], 0⟩ := by
  have := made_text [n] (by simp)
  simpa using this

def preT : Nat → List UInt8
  | 0 => [] | 1 => [32, 32] | 2 => [10] | 3 => [35, 32, 34, 120, 10] | _ => [32, 35, 10, 10]
def sufT : Nat → List UInt8
  | 0 => [] | 1 => [32] | 2 => [32, 35, 32, 34] | _ => [32, 32, 35, 107, 61, 49]
def loose (p q : Nat) (r : Rw) : List UInt8 := preT p ++ lineF r.words ++ sufT q ++ [10]
theorem suf_dead : ∀ q, Dead (sufT q) ∧ (10 : UInt8) ∉ sufT q ∧ (sufT q).length ≤ 6
  | 0 => ⟨dead_nil, by decide, by decide⟩
  | 1 => ⟨dead_blank (.inl dead_nil), by decide, by decide⟩
  | 2 => ⟨dead_blank (.inr ⟨_, rfl⟩), by decide, by decide⟩
  | _ + 3 => ⟨dead_blank (.inl (dead_blank (.inr ⟨_, rfl⟩))), by simp [sufT], by simp [sufT]⟩
theorem loose_row (p q n : Nat) (r : Rw) (R : List UInt8) (acc : List Rw) (h1 : okW r.words = true) (h2 : r.words ≠ []) (h3 : (lineF r.words).length ≤ 100) :
    ∃ row, ktR row = ktR r ∧ ∃ m, rowsAt n (loose p q r ++ R) acc = rowsAt m R (acc ++ [row]) := by
  obtain ⟨d1, d2, d3⟩ := suf_dead q
  have go : ∀ (n k : Nat), k ≤ 2 → ∃ row, ktR row = ktR r ∧ ∃ m, rowsAt n (List.replicate k 32 ++ (lineF r.words ++ sufT q) ++ 10 :: R) acc = rowsAt m R (acc ++ [row]) := fun n k hk => by
    obtain ⟨row, e1, m, e2⟩ := rowsAt_line n k r.words (sufT q) R acc h1 h2 d1 d2 (by simp only [List.length_append, List.length_replicate]; omega)
    exact ⟨row, e1, m, e2⟩
  match p with
  | 0 =>
    obtain ⟨row, e1, m, e2⟩ := go n 0 (by omega)
    exact ⟨row, e1, m, by rw [← e2]; congr 1; simp [loose, preT]⟩
  | 1 =>
    obtain ⟨row, e1, m, e2⟩ := go n 2 (by omega)
    exact ⟨row, e1, m, by rw [← e2]; congr 1; simp [loose, preT, List.replicate_succ]⟩
  | 2 =>
    obtain ⟨row, e1, m, e2⟩ := go (n + 0 + 1) 0 (by omega)
    refine ⟨row, e1, m, ?_⟩
    rw [← e2, show loose 2 q r ++ R = [] ++ 10 :: (List.replicate 0 32 ++ (lineF r.words ++ sufT q) ++ 10 :: R) by simp [loose, preT], rowsAt_dead n _ acc (by simp) (by simp) (.inl dead_nil)]
    rfl
  | 3 =>
    obtain ⟨row, e1, m, e2⟩ := go (n + 4 + 1) 0 (by omega)
    refine ⟨row, e1, m, ?_⟩
    rw [← e2, show loose 3 q r ++ R = [35, 32, 34, 120] ++ 10 :: (List.replicate 0 32 ++ (lineF r.words ++ sufT q) ++ 10 :: R) by simp [loose, preT], rowsAt_dead n _ acc (by decide) (by simp) (.inr ⟨_, rfl⟩)]
    rfl
  | p + 4 =>
    obtain ⟨row, e1, m, e2⟩ := go (n + 2 + 1 + 0 + 1) 0 (by omega)
    refine ⟨row, e1, m, ?_⟩
    rw [← e2, show loose (p + 4) q r ++ R = [32, 35] ++ 10 :: ([] ++ 10 :: (List.replicate 0 32 ++ (lineF r.words ++ sufT q) ++ 10 :: R)) by simp [loose, preT], rowsAt_dead n _ acc (by decide) (by simp) (.inl (dead_blank (.inr ⟨_, rfl⟩))), rowsAt_dead _ _ acc (by simp) (by simp) (.inl dead_nil)]
    rfl
/-- Rows with more between them are read the same. -/
theorem loose_rows : ∀ (l : List (Nat × Nat × Nat)) (n : Nat) (acc : List Rw), ∃ c, rowsAt n (l.flatMap fun x => loose x.1 x.2.1 (madeRow x.2.2)) acc = ⟨acc ++ c, 0, 0⟩ ∧ c.map ktR = l.map fun x => ktR (madeRow x.2.2)
  | [], n, acc => ⟨[], by rw [List.append_nil]; exact rowsAt_end n acc, rfl⟩
  | x :: l, n, acc => by
    obtain ⟨h1, h2, h3⟩ := madeRow_ok x.2.2
    obtain ⟨row, e1, m, e2⟩ := loose_row x.1 x.2.1 n (madeRow x.2.2) (l.flatMap fun x => loose x.1 x.2.1 (madeRow x.2.2)) acc h2 h1 h3
    obtain ⟨c, e3, e4⟩ := loose_rows l m (acc ++ [row])
    refine ⟨row :: c, ?_, by rw [List.map_cons, List.map_cons, e4, e1]⟩
    rw [List.flatMap_cons, e2, e3]; simp
theorem loose_length (p q : Nat) (r : Rw) (h3 : (lineF r.words).length ≤ 100) : (loose p q r).length ≤ 112 := by
  obtain ⟨d1, d2, d3⟩ := suf_dead q
  have : (preT p).length ≤ 5 := by
    match p with
    | 0 => decide
    | 1 => decide
    | 2 => decide
    | 3 => decide
    | _ + 4 => simp [preT]
  unfold loose
  simp only [List.length_append, List.length_cons, List.length_nil]; omega
theorem looses_length : ∀ (l : List (Nat × Nat × Nat)), (l.flatMap fun x => loose x.1 x.2.1 (madeRow x.2.2)).length ≤ 112 * l.length
  | [] => by simp
  | x :: l => by
    have h1 := loose_length x.1 x.2.1 _ (madeRow_ok x.2.2).2.2
    have h2 := looses_length l
    rw [List.flatMap_cons, List.length_append, List.length_cons]; omega
theorem loose_read (l : List (Nat × Nat × Nat)) (h : l.length ≤ 8) : (rowsF (l.flatMap fun x => loose x.1 x.2.1 (madeRow x.2.2))).err = 0 ∧ (rowsF (l.flatMap fun x => loose x.1 x.2.1 (madeRow x.2.2))).rows.map ktR = l.map fun x => ktR (madeRow x.2.2) := by
  have hl := looses_length l
  obtain ⟨c, e1, e2⟩ := loose_rows l 0 []
  unfold rowsF
  rw [if_neg (by omega)]
  unfold rowsAt at e1
  rw [e1]
  exact ⟨rfl, e2⟩
end Go.Proofs.Words3
