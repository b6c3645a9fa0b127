/- Chapter 3: forms are read back; no program in sight. -/
import Derived.Test.YtbcofimmfbmkoaaDoorWordsRef
namespace Go.Proofs.Words3

theorem hexV_hexD : ∀ n : Fin 16, hexV (hexD n.1) = some n.1 := by decide
theorem hex_open : ∀ n : Fin 16, ¬(hexD n.1 < 32) ∧ hexD n.1 ≠ 10 := by decide
theorem hexV_nat {n : Nat} (h : n < 16) : hexV (hexD n) = some n := hexV_hexD ⟨n, h⟩
theorem escB_len (c : UInt8) : 1 ≤ (escB c).length ∧ (escB c).length ≤ 4 := by
  unfold escB
  split
  · simp
  · split
    · simp
    · split <;> simp
theorem piece_esc (c : UInt8) (X : List UInt8) : pieceL (escB c ++ X) = (c, (escB c).length) ∧ (escB c ++ X).head? ≠ some 34 := by
  unfold escB
  split
  · rename_i h; subst h
    simp [pieceL, escL]
  · split
    · rename_i h0 h
      rcases h with rfl | rfl <;> simp [pieceL, escL]
    · split
      · rename_i h0 h1 h2
        have h1' : c ≠ 34 ∧ c ≠ 92 := ⟨fun h => h1 (.inl h), fun h => h1 (.inr h)⟩
        have h3 : ¬(c < 32 ∨ 126 < c ∨ c = 34) := by
          rintro (h | h | h)
          · exact absurd h2.1 (by rw [UInt8.not_le]; exact h)
          · have := h2.2; rw [UInt8.lt_iff_toNat_lt] at *; have e : (127 : UInt8).toNat = 127 := rfl; have e2 : (126 : UInt8).toNat = 126 := rfl; omega
          · exact h1'.1 h
        refine ⟨?_, ?_⟩
        · simp only [List.cons_append, List.nil_append, pieceL]
          rw [if_neg h3, if_pos h1'.2]; rfl
        · simp; exact h1'.1
      · have e1 := hexV_nat (n := c.toNat / 16) (by have := UInt8.toNat_lt c; omega)
        have e2 := hexV_nat (n := c.toNat % 16) (by omega)
        refine ⟨?_, by simp⟩
        simp only [List.cons_append, List.nil_append, pieceL, escL]
        simp only [e1, e2, Nat.div_add_mod]
        simp
theorem qGo_form : ∀ (s : List UInt8) (f : Nat) (acc r : List UInt8), (s.flatMap escB).length + 1 < f → qGo f acc (s.flatMap escB ++ 34 :: r) = some (acc ++ s, r)
  | _, 0, _, _, h => absurd h (by omega)
  | [], f + 1, acc, r, _ => by simp [qGo]
  | c :: s, f + 1, acc, r, h => by
    rw [List.flatMap_cons, List.append_assoc]
    obtain ⟨h1, h2⟩ := piece_esc c (s.flatMap escB ++ 34 :: r)
    have h3 := (escB_len c).1
    unfold qGo
    rw [if_neg h2, h1]
    dsimp only
    rw [if_neg (by omega), List.drop_left]
    rw [List.flatMap_cons, List.length_append] at h
    rw [qGo_form s f _ r (by omega)]
    simp
theorem quotedL_form (s r : List UInt8) : quotedL (s.flatMap escB ++ 34 :: r) = some (s, r) := by
  unfold quotedL
  rw [qGo_form s _ [] r (by simp)]; rfl
theorem bareB_head {s : List UInt8} (h : bareB s = true) : ∃ c r, s = c :: r ∧ openB c = true ∧ c ≠ 35 ∧ s.all openB = true := by
  unfold bareB at h
  cases s with
  | nil => simp at h
  | cons c r =>
    rw [Bool.and_eq_true] at h
    have h1 := h.1
    rw [List.all_cons, Bool.and_eq_true] at h1
    exact ⟨c, r, rfl, h1.1, by simpa using h.2, h.1⟩
theorem endB_cases {r : List UInt8} (h : endB r = true) : r = [] ∨ ∃ t, r = 32 :: t := by
  cases r with
  | nil => exact .inl rfl
  | cons c t => exact .inr ⟨t, by simp only [endB, beq_iff_eq] at h; rw [h]⟩
theorem plainLen_app {s r : List UInt8} (h : s.all openB = true) (hr : endB r = true) : plainLen (s ++ r) = s.length := by
  refine tw_eq openB _ _ (by simp) (fun h1 => ?_) (fun j hj hk => ?_)
  · rcases endB_cases hr with rfl | ⟨t, rfl⟩
    · simp at h1
    · rw [List.getElem_append_right (Nat.le_refl _)]; simp; rfl
  · rw [List.getElem_append_left hk]
    rw [List.all_eq_true] at h
    exact h _ (List.getElem_mem hk)
/-- The form of a text, read as a body. -/
theorem bodyF_form (s r : List UInt8) (hr : endB r = true) : bodyF (quoteF s ++ r) = ⟨s, true, r⟩ := by
  unfold quoteF
  split
  · rename_i h
    obtain ⟨c, t, rfl, h1, h2, h3⟩ := bareB_head h
    unfold bodyF
    rw [if_neg (by simp; exact (openB_ne h1).2.1), plainLen_app h3 hr, List.take_left, List.drop_left, h]
  · unfold bodyF quotedF
    rw [List.cons_append, List.append_assoc, if_pos (show (34 :: _ : List UInt8).head? = some 34 from rfl)]
    show (match quotedL (List.flatMap escB s ++ ([34] ++ r)) with | some (t, r) => (⟨t, true, r⟩ : Body) | none => ⟨[], false, []⟩) = _
    rw [show ([34] : List UInt8) ++ r = 34 :: r from rfl, quotedL_form]
theorem unquote_quote (s : List UInt8) : unquoteF (quoteF s) = ⟨s, 0⟩ := by
  have := bodyF_form s [] rfl
  rw [List.append_nil] at this
  unfold unquoteF; rw [this]; rfl
theorem quoteF_inj {s t : List UInt8} (h : quoteF s = quoteF t) : s = t := by
  have h1 := unquote_quote s
  rw [h, unquote_quote t] at h1
  exact (TextR.mk.inj h1).1.symm
theorem quoteF_head (s : List UInt8) : ∃ c t, quoteF s = c :: t ∧ c ≠ 32 ∧ c ≠ 35 ∧ c ≠ 61 := by
  unfold quoteF
  split
  · rename_i h
    obtain ⟨c, t, rfl, h1, h2, h3⟩ := bareB_head h
    exact ⟨c, t, rfl, (openB_ne h1).1, h2, (openB_ne h1).2.2.1⟩
  · exact ⟨34, _, rfl, by decide, by decide, by decide⟩
theorem escB_lf (c : UInt8) : (10 : UInt8) ∉ escB c := by
  unfold escB
  split
  · decide
  · rename_i h0
    split
    · rename_i h; simp only [List.mem_cons, List.not_mem_nil, or_false, not_or]; exact ⟨by decide, fun e => h0 e.symm⟩
    · split
      · simp only [List.mem_cons, List.not_mem_nil, or_false]; exact fun e => h0 e.symm
      · have e1 := hex_open ⟨c.toNat / 16, by have := UInt8.toNat_lt c; omega⟩
        have e2 := hex_open ⟨c.toNat % 16, by omega⟩
        simp only [List.mem_cons, List.not_mem_nil, or_false, not_or]
        exact ⟨by decide, by decide, fun e => e1.2 e.symm, fun e => e2.2 e.symm⟩
theorem quoteF_lf (s : List UInt8) : (10 : UInt8) ∉ quoteF s := by
  unfold quoteF
  split
  · rename_i h
    obtain ⟨c, t, rfl, h1, h2, h3⟩ := bareB_head h
    intro hm
    rw [List.all_eq_true] at h3
    exact (openB_ne (h3 _ hm)).2.2.2.2 rfl
  · unfold quotedF
    simp only [List.mem_cons, List.mem_append, List.mem_flatMap, List.not_mem_nil, or_false, not_or, not_exists, not_and]
    exact ⟨by decide, fun c _ => escB_lf c, by decide⟩

theorem hasKey_of_form (t r : List UInt8) (hr : endB r = true) : hasKey (quoteF t ++ r) = false := by
  cases hk : hasKey (quoteF t ++ r) with
  | false => rfl
  | true =>
    exfalso
    obtain ⟨c, u, hq, hq1, hq2, hq3⟩ := quoteF_head t
    generalize hqq : quoteF t = q at *
    unfold hasKey at hk
    rw [Bool.and_eq_true, decide_eq_true_eq] at hk
    obtain ⟨hi, hn⟩ := hk
    have hall := fun j hj hk => cont_ne (name_take hn j hj hk)
    have h61 := idx_at 61 _ hi
    have h0 : 0 < idx 61 (q ++ r) := by
      rcases Nat.eq_zero_or_pos (idx 61 (q ++ r)) with h | h
      · exfalso
        have : (q ++ r)[0]'(by rw [hq]; simp) = 61 := by simp only [h] at h61; exact h61
        simp only [hq, List.cons_append, List.getElem_cons_zero] at this
        exact hq3 this
      · exact h
    have hc0 := hall 0 (by omega) h0
    have e0 : (q ++ r)[0]'(by omega) = c := by simp [hq]
    rw [e0] at hc0
    by_cases hb : bareB t = true
    · obtain rfl : t = q := by rw [← hqq]; unfold quoteF; rw [if_pos hb]
      obtain ⟨_, _, _, _, _, h3⟩ := bareB_head hb
      rw [List.all_eq_true] at h3
      rcases Nat.lt_trichotomy (idx 61 (t ++ r)) t.length with h | h | h
      · rw [List.getElem_append_left h] at h61
        exact (openB_ne (h3 _ (List.getElem_mem h))).2.2.1 h61
      · rw [List.getElem_append_right (by omega)] at h61
        rcases endB_cases hr with rfl | ⟨v, rfl⟩
        · rw [List.append_nil] at *; omega
        · simp [h] at h61
      · have h4 := hall t.length (by omega) h
        rcases endB_cases hr with rfl | ⟨v, rfl⟩
        · rw [List.append_nil] at *; omega
        · rw [List.getElem_append_right (Nat.le_refl _)] at h4; simp at h4
    · have : c = 34 := by
        unfold quoteF quotedF at hqq
        rw [if_neg hb, hq] at hqq
        exact (List.cons.inj hqq).1.symm
      exact hc0.2.1 this
/-- The form of a word, read as a word. -/
theorem wordF_form (w : Wd) (hk : keyBad w = false) (r : List UInt8) (hr : endB r = true) : wordF (formW w ++ r) = ⟨w.key, ⟨w.text, true, r⟩⟩ := by
  unfold keyBad at hk
  by_cases h0 : w.key = []
  · have hf : formW w = quoteF w.text := by unfold formW; rw [if_pos h0]; rfl
    rw [hf]
    have h1 := hasKey_of_form w.text r hr
    have h2 := bodyF_form w.text r hr
    have e1 : keyOf (quoteF w.text ++ r) = [] := by unfold keyOf; rw [h1]; simp
    have e2 : fromOf (quoteF w.text ++ r) = quoteF w.text ++ r := by unfold fromOf; rw [h1]; simp
    unfold wordF
    rw [e1, e2, h2, h0]
    dsimp only
    rw [hr]; rfl
  · have hn : nameB w.key = true := by
      cases hn : nameB w.key with
      | true => rfl
      | false => rw [hn] at hk; simp [h0] at hk
    have hf : formW w ++ r = w.key ++ 61 :: (quoteF w.text ++ r) := by unfold formW; rw [if_neg h0]; simp
    rw [hf]
    have hi : idx 61 (w.key ++ 61 :: (quoteF w.text ++ r)) = w.key.length := idx_eq 61 _ _ (by simp) (fun h => by rw [List.getElem_append_right (Nat.le_refl _)]; simp) (fun j hj hlt => by
      rw [List.getElem_append_left hlt]; exact (cont_ne (nameB_cont hn _ (List.getElem_mem hlt))).2.2.1)
    have h1 : hasKey (w.key ++ 61 :: (quoteF w.text ++ r)) = true := by
      unfold hasKey; rw [hi, List.take_left, hn, decide_eq_true (by simp)]; rfl
    have e1 : keyOf (w.key ++ 61 :: (quoteF w.text ++ r)) = w.key := by unfold keyOf; rw [h1, hi, List.take_left]; rfl
    have e2 : fromOf (w.key ++ 61 :: (quoteF w.text ++ r)) = quoteF w.text ++ r := by
      unfold fromOf; rw [h1, hi, if_pos rfl]
      rw [show w.key ++ 61 :: (quoteF w.text ++ r) = (w.key ++ [61]) ++ (quoteF w.text ++ r) by simp]
      exact List.drop_left' (by simp)
    unfold wordF
    rw [e1, e2, bodyF_form w.text r hr]
    dsimp only
    rw [hr]; rfl
theorem formW_head (w : Wd) (hk : keyBad w = false) : ∃ c t, formW w = c :: t ∧ c ≠ 32 ∧ c ≠ 35 := by
  unfold keyBad at hk
  by_cases h0 : w.key = []
  · obtain ⟨c, t, h1, h2, h3, _⟩ := quoteF_head w.text
    exact ⟨c, t, by unfold formW; rw [if_pos h0]; exact h1, h2, h3⟩
  · have hn : nameB w.key = true := by
      cases hn : nameB w.key with
      | true => rfl
      | false => rw [hn] at hk; simp [h0] at hk
    cases hke : w.key with
    | nil => exact absurd hke h0
    | cons c t =>
      have hc := nameB_cont hn c (by rw [hke]; simp)
      refine ⟨c, _, by unfold formW; rw [if_neg h0, hke]; rfl, (cont_ne hc).1, ?_⟩
      rintro rfl; revert hc; decide
theorem formW_lf (w : Wd) (hk : keyBad w = false) : (10 : UInt8) ∉ formW w := by
  unfold keyBad at hk
  unfold formW
  by_cases h0 : w.key = []
  · rw [if_pos h0]; exact quoteF_lf _
  · have hn : nameB w.key = true := by
      cases hn : nameB w.key with
      | true => rfl
      | false => rw [hn] at hk; simp [h0] at hk
    rw [if_neg h0]
    simp only [List.mem_append, List.mem_cons, List.not_mem_nil, or_false, not_or]
    exact ⟨⟨fun h => (cont_ne (nameB_cont hn _ h)).2.2.2 rfl, by decide⟩, quoteF_lf _⟩
end Go.Proofs.Words3
