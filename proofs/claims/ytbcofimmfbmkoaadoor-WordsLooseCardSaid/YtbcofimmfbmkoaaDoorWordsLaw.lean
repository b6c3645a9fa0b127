/- Chapter 3: the text of rows is read back; blanks, comments and empty lines do not matter; no program in sight. -/
import Derived.Test.YtbcofimmfbmkoaaDoorWordsBack
namespace Go.Proofs.Words3

abbrev KT := List UInt8 × List UInt8
def kt (w : Wd) : KT := (w.key, w.text)
def okW (ws : List Wd) : Bool := ws.all fun w => !keyBad w
theorem shift_kt (n : Nat) (ws : List Wd) : (ws.map (shiftW n)).map kt = ws.map kt := by rw [List.map_map]; rfl
theorem formW_kt {a b : Wd} (h : kt a = kt b) : formW a = formW b ∧ keyBad a = keyBad b := by
  have h1 : a.key = b.key := congrArg Prod.fst h
  have h2 : a.text = b.text := congrArg Prod.snd h
  exact ⟨by unfold formW; rw [h1, h2], by unfold keyBad; rw [h1]⟩
theorem forms_kt : ∀ {a b : List Wd}, a.map kt = b.map kt → a.map formW = b.map formW ∧ a.any keyBad = b.any keyBad ∧ a.length = b.length
  | [], [], _ => ⟨rfl, rfl, rfl⟩
  | [], _ :: _, h => by cases h
  | _ :: _, [], h => by cases h
  | x :: a, y :: b, h => by
    simp only [List.map_cons, List.cons.injEq] at h
    obtain ⟨h1, h2, h3⟩ := forms_kt h.2
    obtain ⟨h4, h5⟩ := formW_kt h.1
    exact ⟨by rw [List.map_cons, List.map_cons, h1, h4], by rw [List.any_cons, List.any_cons, h2, h5], by rw [List.length_cons, List.length_cons, h3]⟩
def ktR (r : Rw) : List KT := r.words.map kt
theorem textGo_kt : ∀ {a b : List Rw} (out : List UInt8), a.map ktR = b.map ktR → textGo a out = textGo b out
  | [], [], _, _ => rfl
  | [], _ :: _, _, h => by cases h
  | _ :: _, [], _, h => by cases h
  | x :: a, y :: b, out, h => by
    simp only [List.map_cons, List.cons.injEq] at h
    obtain ⟨h1, h2, h3⟩ := forms_kt h.1
    have h4 : (x.words = []) = (y.words = []) := by rw [← List.length_eq_zero_iff, ← List.length_eq_zero_iff, h3]
    have hl : lineF x.words = lineF y.words := by unfold lineF; rw [h1]
    unfold textGo
    rw [h2, hl, textGo_kt _ h.2]
    by_cases hw : y.words = []
    · rw [if_pos hw, if_pos (by rw [h4]; exact hw)]
    · rw [if_neg hw, if_neg (by rw [h4]; exact hw)]

/-- Behind a word: nothing that is a word. -/
def Dead (r : List UInt8) : Prop := endB r = true ∧ ∀ f n, r.length < f → wordsGo f n r = []
theorem dead_nil : Dead [] := ⟨rfl, fun f n h => by cases f with | zero => rfl | succ f => rfl⟩
theorem dead_blank {r : List UInt8} (h : Dead r ∨ ∃ t, r = 35 :: t) : Dead (32 :: r) := by
  refine ⟨rfl, fun f n hf => ?_⟩
  cases f with
  | zero => rfl
  | succ f =>
    unfold wordsGo
    simp only [if_true]
    rcases h with h | ⟨t, rfl⟩
    · exact h.2 _ _ (by simp at hf; omega)
    · cases f with
      | zero => rfl
      | succ f => unfold wordsGo; simp
theorem words_line : ∀ (ws : List Wd) (f n : Nat) (r : List UInt8), okW ws = true → ws ≠ [] → Dead r → (lineF ws ++ r).length < f → ∃ us : List Wd, wordsGo f n (lineF ws ++ r) = us.map (fun u => (u, true)) ∧ us.map kt = ws.map kt
  | [], _, _, _, _, h, _, _ => absurd rfl h
  | w :: ws, 0, _, _, _, _, _, h => absurd h (by omega)
  | w :: ws, f + 1, n, r, hk, _, hr, hf => by
    unfold okW at hk
    rw [List.all_cons, Bool.and_eq_true] at hk
    have hk1 : keyBad w = false := by simpa using hk.1
    obtain ⟨c, t, h1, h2, h3⟩ := formW_head w hk1
    cases ws with
    | nil =>
      have e : lineF [w] = formW w := rfl
      have hw := wordF_form w hk1 r hr.1
      rw [e] at hf ⊢
      rw [h1] at hf hw ⊢
      refine ⟨[⟨n, w.key, w.text⟩], ?_, rfl⟩
      rw [List.cons_append] at hw hf ⊢
      unfold wordsGo
      simp only [if_neg h2, if_neg h3, hw, if_true]
      rw [hr.2 _ _ (by simp at hf; omega)]; rfl
    | cons v ws =>
      have e : lineF (w :: v :: ws) ++ r = formW w ++ (32 :: (lineF (v :: ws) ++ r)) := by
        show (formW w ++ 32 :: lineF (v :: ws)) ++ r = _
        simp
      rw [e] at hf ⊢
      have hw := wordF_form w hk1 (32 :: (lineF (v :: ws) ++ r)) rfl
      rw [h1] at hf hw ⊢
      rw [List.cons_append] at hw hf ⊢
      unfold wordsGo
      simp only [if_neg h2, if_neg h3, hw, if_true]
      cases f with
      | zero => simp at hf
      | succ f =>
        obtain ⟨us, h4, h5⟩ := words_line (v :: ws) f ((n + ((c :: (t ++ 32 :: (lineF (v :: ws) ++ r))).length - (32 :: (lineF (v :: ws) ++ r)).length)) + 1) r hk.2 (by simp) hr (by simp at hf; simp; omega)
        refine ⟨⟨n, w.key, w.text⟩ :: us, ?_, by rw [List.map_cons, List.map_cons, h5]; rfl⟩
        conv => lhs; unfold wordsGo
        simp only [if_true]
        rw [h4]; rfl
theorem rowOf_true (us : List Wd) : rowOf (us.map fun u => (u, true)) = (us, none) := by
  induction us with
  | nil => rfl
  | cons u us ih => simp only [List.map_cons, rowOf, ih]
theorem wordsGo_blank (f n : Nat) (s : List UInt8) : wordsGo (f + 1) n (32 :: s) = wordsGo f (n + 1) s := by conv => lhs; unfold wordsGo; simp
/-- A line with words, blanks ahead of it, something dead behind it. -/
theorem row_line (ws : List Wd) (k : Nat) (r : List UInt8) (h1 : okW ws = true) (h2 : ws ≠ []) (h3 : Dead r) : (rowF (List.replicate k 32 ++ (lineF ws ++ r))).2 = none ∧ (rowF (List.replicate k 32 ++ (lineF ws ++ r))).1.map kt = ws.map kt := by
  have main : ∀ (k f n : Nat), (List.replicate k 32 ++ (lineF ws ++ r)).length < f → ∃ us : List Wd, wordsGo f n (List.replicate k 32 ++ (lineF ws ++ r)) = us.map (fun u => (u, true)) ∧ us.map kt = ws.map kt := by
    intro k
    induction k with
    | zero => intro f n hf; exact words_line ws f n r h1 h2 h3 hf
    | succ k ih =>
      intro f n hf
      cases f with
      | zero => exact absurd hf (by omega)
      | succ f =>
        rw [List.replicate_succ, List.cons_append] at hf ⊢
        rw [wordsGo_blank]
        exact ih f (n + 1) (by rw [List.length_cons] at hf; omega)
  obtain ⟨us, h4, h5⟩ := main k _ 0 (Nat.lt_succ_self _)
  unfold rowF wordsF
  rw [h4, rowOf_true]
  exact ⟨rfl, h5⟩
theorem row_dead {l : List UInt8} (h : Dead l ∨ ∃ t, l = 35 :: t) : rowF l = ([], none) := by
  unfold rowF wordsF
  rcases h with h | ⟨t, rfl⟩
  · rw [h.2 _ _ (Nat.lt_succ_self _)]; rfl
  · unfold wordsGo; simp [rowOf]

theorem linesF_cons (l r : List UInt8) (h : (10 : UInt8) ∉ l) : linesF (l ++ 10 :: r) = l :: linesF r := by
  have hi : idx 10 (l ++ 10 :: r) = l.length := idx_eq 10 _ _ (by simp) (fun h => by rw [List.getElem_append_right (Nat.le_refl _)]; simp) (fun j hj hlt e => by
    rw [List.getElem_append_left hlt] at e; exact h (e ▸ List.getElem_mem hlt))
  unfold linesF
  conv => lhs; unfold linesGo
  rw [hi, if_pos (by simp), List.take_left, linesGo_fuel _ (r.length + 1) _ (by simp; omega) (by simp)]
  congr 2
  rw [show l ++ 10 :: r = (l ++ [10]) ++ r by simp]
  exact List.drop_left' (by simp)
theorem linesF_nil : linesF [] = [[]] := rfl
/-- The rows from a place on. -/
def rowsAt (n : Nat) (s : List UInt8) (acc : List Rw) : RowsR := rowsGo n (linesF s) acc
theorem rowsAt_dead (n : Nat) {l : List UInt8} (r : List UInt8) (acc : List Rw) (h : (10 : UInt8) ∉ l) (hl : l.length ≤ 1000) (hd : Dead l ∨ ∃ t, l = 35 :: t) : rowsAt n (l ++ 10 :: r) acc = rowsAt (n + l.length + 1) r acc := by
  unfold rowsAt
  rw [linesF_cons l r h]
  conv => lhs; unfold rowsGo
  rw [if_neg (by omega), row_dead hd]
  rfl
theorem joinSp_lf : ∀ (l : List (List UInt8)), (∀ x ∈ l, (10 : UInt8) ∉ x) → (10 : UInt8) ∉ joinSp l
  | [], _ => by simp [joinSp]
  | [x], h => h x (by simp)
  | x :: y :: l, h => by
    unfold joinSp
    have := joinSp_lf (y :: l) (fun z hz => h z (List.mem_cons_of_mem _ hz))
    simp only [List.mem_append, List.mem_cons, not_or]
    exact ⟨h x (by simp), by decide, this⟩
theorem lineF_lf (ws : List Wd) (h : okW ws = true) : (10 : UInt8) ∉ lineF ws := by
  refine joinSp_lf _ fun x hx => ?_
  obtain ⟨w, hw, rfl⟩ := List.mem_map.1 hx
  unfold okW at h
  rw [List.all_eq_true] at h
  exact formW_lf w (by simpa using h w hw)
theorem lf_blanks (k : Nat) (l : List UInt8) (h : (10 : UInt8) ∉ l) : (10 : UInt8) ∉ List.replicate k 32 ++ l := by
  rw [List.mem_append, List.mem_replicate]
  rintro (⟨_, e⟩ | e)
  · cases e
  · exact h e
theorem rowsAt_line (n k : Nat) (ws : List Wd) (d r : List UInt8) (acc : List Rw) (h1 : okW ws = true) (h2 : ws ≠ []) (h3 : Dead d) (h4 : (10 : UInt8) ∉ d) (h5 : (List.replicate k 32 ++ (lineF ws ++ d)).length ≤ 1000) :
    ∃ row, row.words.map kt = ws.map kt ∧ ∃ m, rowsAt n (List.replicate k 32 ++ (lineF ws ++ d) ++ 10 :: r) acc = rowsAt m r (acc ++ [row]) := by
  obtain ⟨e1, e2⟩ := row_line ws k d h1 h2 h3
  have hlf : (10 : UInt8) ∉ List.replicate k 32 ++ (lineF ws ++ d) := lf_blanks k _ (by rw [List.mem_append, not_or]; exact ⟨lineF_lf ws h1, h4⟩)
  refine ⟨⟨n, (rowF (List.replicate k 32 ++ (lineF ws ++ d))).1.map (shiftW n)⟩, by rw [shift_kt]; exact e2, n + (List.replicate k 32 ++ (lineF ws ++ d)).length + 1, ?_⟩
  unfold rowsAt
  rw [linesF_cons _ r hlf]
  conv => lhs; unfold rowsGo
  rw [if_neg (by omega), e1]
  unfold addRow
  rw [if_neg (fun e => h2 (List.map_eq_nil_iff.1 (by rw [← e2, e]; rfl)))]
theorem rowsAt_end (n : Nat) (acc : List Rw) : rowsAt n [] acc = ⟨acc, 0, 0⟩ := by
  unfold rowsAt
  rw [linesF_nil]
  unfold rowsGo
  rw [if_neg (by decide), row_dead (.inl dead_nil)]
  rfl

/-- What a text without an error consists of. -/
theorem textGo_ok : ∀ (rows : List Rw) (out : List UInt8) (t : List UInt8), textGo rows out = ⟨t, 0⟩ → out.length ≤ 20000 →
    t = out ++ rows.flatMap (fun r => lineF r.words ++ [10]) ∧ t.length ≤ 20000 ∧ ∀ r ∈ rows, r.words ≠ [] ∧ okW r.words = true ∧ (lineF r.words).length ≤ 1000
  | [], out, t, h, ho => by
    unfold textGo at h
    cases h
    exact ⟨by simp, ho, by simp⟩
  | r :: rows, out, t, h, ho => by
    unfold textGo at h
    split at h
    · cases h
    · rename_i h1
      split at h
      · cases h
      · rename_i h2
        split at h
        · cases h
        · rename_i h3
          rw [not_or] at h3
          obtain ⟨e1, e2, e3⟩ := textGo_ok rows _ t h (by omega)
          refine ⟨by rw [e1, List.flatMap_cons]; simp, e2, fun x hx => ?_⟩
          rcases List.mem_cons.1 hx with rfl | hx
          · refine ⟨h1, ?_, by omega⟩
            unfold okW
            rw [List.all_eq_true]
            intro w hw
            cases hb : keyBad w with
            | false => rfl
            | true => exact absurd (List.any_eq_true.2 ⟨w, hw, hb⟩) h2
          · exact e3 x hx
theorem rows_lines : ∀ (rows : List Rw) (n : Nat) (acc : List Rw), (∀ r ∈ rows, r.words ≠ [] ∧ okW r.words = true ∧ (lineF r.words).length ≤ 1000) →
    ∃ c, rowsAt n (rows.flatMap (fun r => lineF r.words ++ [10])) acc = ⟨acc ++ c, 0, 0⟩ ∧ c.map ktR = rows.map ktR
  | [], n, acc, _ => ⟨[], by rw [List.append_nil]; exact rowsAt_end n acc, rfl⟩
  | r :: rows, n, acc, h => by
    obtain ⟨h1, h2, h3⟩ := h r List.mem_cons_self
    obtain ⟨row, e1, m, e2⟩ := rowsAt_line n 0 r.words [] (rows.flatMap (fun r => lineF r.words ++ [10])) acc h2 h1 dead_nil (by simp) (by simpa using h3)
    obtain ⟨c, e3, e4⟩ := rows_lines rows m (acc ++ [row]) (fun x hx => h x (List.mem_cons_of_mem _ hx))
    refine ⟨row :: c, ?_, by rw [List.map_cons, List.map_cons, e4]; unfold ktR; rw [e1]⟩
    rw [List.flatMap_cons]
    simp only [List.replicate_zero, List.nil_append, List.append_nil] at e2
    rw [List.append_assoc, List.singleton_append, e2, e3]; simp
/-- The rows of the text of rows are these rows. -/
theorem round_trip {rows : List Rw} {t : List UInt8} (h : textF rows = ⟨t, 0⟩) : t.length ≤ 20000 ∧ (rowsF t).err = 0 ∧ (rowsF t).rows.map ktR = rows.map ktR := by
  obtain ⟨e1, e2, e3⟩ := textGo_ok rows [] t h (by simp)
  obtain ⟨c, e4, e5⟩ := rows_lines rows 0 [] e3
  rw [List.nil_append] at e1 e4
  unfold rowsAt at e4
  unfold rowsF
  rw [if_neg (by omega), e1, e4]
  exact ⟨by rw [← e1]; exact e2, rfl, e5⟩

theorem wordsGo_ok : ∀ (f n : Nat) (s : List UInt8), ∀ p ∈ wordsGo f n s, keyBad p.1 = false ∧ (p.2 = true → n ≤ p.1.at_)
  | 0, _, _, p, hp => by cases hp
  | f + 1, n, [], p, hp => by cases hp
  | f + 1, n, c :: r, p, hp => by
    have hkey : ∀ (at_ : Int) (t : List UInt8), keyBad ⟨at_, (wordF (c :: r)).key, t⟩ = false := by
      intro at_ t
      unfold keyBad wordF keyOf hasKey
      dsimp only
      split
      · rename_i h
        rw [Bool.and_eq_true] at h
        rw [h.2]; simp
      · rfl
    simp only [wordsGo] at hp
    split at hp
    · obtain ⟨h1, h2⟩ := wordsGo_ok f (n + 1) r p hp
      exact ⟨h1, fun h => by have := h2 h; omega⟩
    · split at hp
      · cases hp
      · split at hp
        · rcases List.mem_cons.1 hp with rfl | hp
          · exact ⟨hkey _ _, fun _ => Int.le_refl _⟩
          · obtain ⟨h1, h2⟩ := wordsGo_ok f _ _ p hp
            exact ⟨h1, fun h => by have := h2 h; omega⟩
        · rw [List.mem_singleton] at hp
          subst hp
          exact ⟨hkey _ _, fun _ => Int.le_refl _⟩
theorem rowOf_mem : ∀ (l : List (Wd × Bool)), ∀ w ∈ (rowOf l).1, (w, true) ∈ l
  | [], w, h => by cases h
  | (v, true) :: l, w, h => by
    simp only [rowOf] at h
    rcases List.mem_cons.1 h with rfl | h
    · exact List.mem_cons_self
    · exact List.mem_cons_of_mem _ (rowOf_mem l w h)
  | (v, false) :: l, w, h => by cases h
theorem rowF_ok (l : List UInt8) : okW (rowF l).1 = true := by
  unfold okW
  rw [List.all_eq_true]
  intro w hw
  have := (wordsGo_ok _ _ _ _ (rowOf_mem _ w hw)).1
  dsimp only at this
  rw [this]; rfl
theorem rowsGo_ok : ∀ (ls : List (List UInt8)) (n : Nat) (acc : List Rw), (∀ r ∈ acc, r.words ≠ [] ∧ okW r.words = true) → ∀ r ∈ (rowsGo n ls acc).rows, r.words ≠ [] ∧ okW r.words = true
  | [], n, acc, h, r, hr => h r hr
  | l :: ls, n, acc, h, r, hr => by
    unfold rowsGo at hr
    split at hr
    · cases hr
    · split at hr
      · cases hr
      · refine rowsGo_ok ls _ _ (fun x hx => ?_) r hr
        unfold addRow at hx
        split at hx
        · exact h x hx
        · rename_i h3
          rcases List.mem_append.1 hx with hx | hx
          · exact h x hx
          · rw [List.mem_singleton] at hx
            subst hx
            refine ⟨by simpa using h3, ?_⟩
            have := rowF_ok l
            unfold okW at this ⊢
            rw [List.all_map]
            exact this
theorem rowsF_ok (s : List UInt8) : ∀ r ∈ (rowsF s).rows, r.words ≠ [] ∧ okW r.words = true := by
  unfold rowsF
  split
  · intro r hr; cases hr
  · exact rowsGo_ok _ _ _ (fun r hr => by cases hr)
theorem okW_any {ws : List Wd} (h : okW ws = true) : ws.any keyBad = false := by
  cases hb : ws.any keyBad with
  | false => rfl
  | true =>
    obtain ⟨w, h1, h2⟩ := List.any_eq_true.1 hb
    unfold okW at h
    rw [List.all_eq_true] at h
    have := h w h1
    rw [h2] at this; cases this
theorem textGo_err : ∀ (rows : List Rw) (out : List UInt8), (∀ r ∈ rows, r.words ≠ [] ∧ okW r.words = true) → (textGo rows out).err = 0 ∨ (textGo rows out).err = 4
  | [], out, _ => .inl rfl
  | r :: rows, out, h => by
    obtain ⟨h1, h2⟩ := h r List.mem_cons_self
    unfold textGo
    rw [if_neg h1, okW_any h2]
    simp only [Bool.false_eq_true, if_false]
    split
    · exact .inr rfl
    · exact textGo_err rows _ (fun x hx => h x (List.mem_cons_of_mem _ hx))
/-- A text that is read and written is read the same, and written the same. -/
theorem read_write (s : List UInt8) : ((textF (rowsF s).rows).err = 4) ∨ ((textF (rowsF s).rows).err = 0 ∧ (textF (rowsF s).rows).text.length ≤ 20000 ∧ (rowsF (textF (rowsF s).rows).text).err = 0 ∧
    (rowsF (textF (rowsF s).rows).text).rows.map ktR = (rowsF s).rows.map ktR ∧ textF (rowsF (textF (rowsF s).rows).text).rows = textF (rowsF s).rows) := by
  rcases textGo_err (rowsF s).rows [] (rowsF_ok s) with h | h
  · right
    have h' : textF (rowsF s).rows = ⟨(textF (rowsF s).rows).text, 0⟩ := by
      show textF (rowsF s).rows = _
      rw [← show (textF (rowsF s).rows).err = 0 from h]
    obtain ⟨e1, e2, e3⟩ := round_trip h'
    exact ⟨h, e1, e2, e3, textGo_kt [] e3⟩
  · exact .inl h
theorem textGo_short : ∀ (rows : List Rw) (out : List UInt8), (∀ r ∈ rows, r.words ≠ [] ∧ okW r.words = true ∧ (lineF r.words).length ≤ 100) → out.length + 101 * rows.length ≤ 20000 →
    textGo rows out = ⟨out ++ rows.flatMap (fun r => lineF r.words ++ [10]), 0⟩
  | [], out, _, _ => by simp [textGo]
  | r :: rows, out, h, ho => by
    obtain ⟨h1, h2, h3⟩ := h r List.mem_cons_self
    rw [List.length_cons] at ho
    unfold textGo
    rw [if_neg h1, okW_any h2]
    simp only [Bool.false_eq_true, if_false]
    rw [if_neg (by simp only [List.length_append, List.length_cons, List.length_nil]; omega)]
    rw [textGo_short rows _ (fun x hx => h x (List.mem_cons_of_mem _ hx)) (by simp only [List.length_append, List.length_cons, List.length_nil]; omega)]
    simp
end Go.Proofs.Words3
