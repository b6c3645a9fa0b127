/- Chapter 3: the reference's way to read a word is the program's; no program in sight. -/
import Derived.Test.YtbcofimmfbmkoaaDoorWordsPlain
namespace Go.Proofs.Words3

def stopB (c : UInt8) : Bool := c != 32 && (c != 61 && c != 34)
def stop (s : List UInt8) : Nat := tw stopB s
def bodyR (s : List UInt8) : Body :=
  if s.head? = some 34 then (match quotedL (s.drop 1) with | some (t, r) => if endB r = true then ⟨t, true, r⟩ else ⟨[], false, []⟩ | none => ⟨[], false, []⟩)
  else if bareB (s.take (idx 32 s)) = true then ⟨s.take (idx 32 s), true, s.drop (idx 32 s)⟩ else ⟨[], false, []⟩
def stopEq (s : List UInt8) : Bool := decide (s[stop s]? = some 61)
def wordRef (s : List UInt8) : WordR :=
  if stopEq s = true then (if nameB (s.take (stop s)) = true then ⟨s.take (stop s), bodyR (s.drop (stop s + 1))⟩ else ⟨[], ⟨[], false, []⟩⟩)
  else ⟨[], bodyR s⟩

theorem openB_ne {c : UInt8} (h : openB c = true) : c ≠ 32 ∧ c ≠ 34 ∧ c ≠ 61 ∧ c ≠ 92 ∧ c ≠ 10 := by
  refine ⟨?_, ?_, ?_, ?_, ?_⟩ <;> (rintro rfl; revert h; decide)
theorem cont_ne {c : UInt8} (h : cont c = true) : c ≠ 32 ∧ c ≠ 34 ∧ c ≠ 61 ∧ c ≠ 10 := by
  refine ⟨?_, ?_, ?_, ?_⟩ <;> (rintro rfl; revert h; decide)
theorem letter_cont {c : UInt8} (h : letter c = true) : cont c = true := by unfold cont; rw [h]; rfl
theorem nameB_cont {s : List UInt8} (h : nameB s = true) : ∀ c ∈ s, cont c = true := by
  unfold nameB at h
  rw [Bool.and_eq_true] at h
  intro c hc
  cases s with
  | nil => cases hc
  | cons d r =>
    have h1 := h.1
    simp only [nmGo, Bool.and_eq_true, List.all_eq_true] at h1
    rcases List.mem_cons.1 hc with rfl | hc
    · exact letter_cont h1.1
    · exact h1.2 c hc
theorem endB_iff (s : List UInt8) (k : Nat) (hk : k ≤ s.length) : endB (s.drop k) = true ↔ ∀ h : k < s.length, s[k] = 32 := by
  rcases Nat.lt_or_ge k s.length with h | h
  · rw [List.drop_eq_getElem_cons h]
    simp only [endB, beq_iff_eq]
    exact ⟨fun h1 _ => h1, fun h1 => h1 h⟩
  · rw [List.drop_eq_nil_of_le h]
    exact ⟨fun _ h1 => absurd h1 (by omega), fun _ => rfl⟩
theorem all_take {p : UInt8 → Bool} {s : List UInt8} {k : Nat} (h : (s.take k).all p = true) (j : Nat) (hj : j < s.length) (hk : j < k) : p s[j] = true := by
  rw [List.all_eq_true] at h
  exact h _ (List.mem_take_iff_getElem.2 ⟨j, by omega, rfl⟩)
theorem plain_idx (s : List UInt8) : bareB (s.take (idx 32 s)) = (bareB (s.take (plainLen s)) && endB (s.drop (plainLen s))) ∧ (bareB (s.take (idx 32 s)) = true → idx 32 s = plainLen s) := by
  have key : bareB (s.take (idx 32 s)) = true → idx 32 s = plainLen s := by
    intro h
    unfold bareB at h
    rw [Bool.and_eq_true] at h
    refine (tw_eq openB s _ (idx_le _ _) (fun h2 => ?_) (fun j hj hk => all_take h.1 j hj hk)).symm
    rw [idx_at 32 s h2]; rfl
  refine ⟨?_, key⟩
  rw [Bool.eq_iff_iff, Bool.and_eq_true]
  constructor
  · intro h
    have e := key h
    rw [← e]
    refine ⟨h, (endB_iff s _ (idx_le _ _)).2 fun h2 => idx_at 32 s h2⟩
  · rintro ⟨h1, h2⟩
    have e : idx 32 s = plainLen s := by
      unfold bareB at h1
      rw [Bool.and_eq_true] at h1
      exact idx_eq 32 s _ (plainLen_le s) ((endB_iff s _ (plainLen_le s)).1 h2) (fun j hj hk => (openB_ne (all_take h1.1 j hj hk)).1)
    rw [e]; exact h1
/-- The reference's body is the program's where this is followed by a blank or the end. -/
theorem bodyR_eq (s : List UInt8) : bodyR s = if ((bodyF s).ok && endB (bodyF s).rest) = true then bodyF s else ⟨[], false, []⟩ := by
  unfold bodyR bodyF
  split
  · cases quotedL (s.drop 1) with
    | none => simp
    | some p => simp
  · dsimp only
    obtain ⟨h1, h2⟩ := plain_idx s
    rw [← h1]
    split
    · rename_i h3
      rw [← h2 h3, h3]
    · rfl
theorem body_eta (b : Body) (h : b.ok = true) : (⟨b.text, true, b.rest⟩ : Body) = b := by cases b; cases h; rfl
theorem bodyF_at (s : List UInt8) (j : Nat) (hj : j < s.length) (h0 : s[j] = 61) (hn : ∀ (i : Nat) (h : i < s.length), i < j → s[i] ≠ 32 ∧ s[i] ≠ 34) : ((bodyF s).ok && endB (bodyF s).rest) = false := by
  have hh : s.head? ≠ some 34 := by
    cases s with
    | nil => simp at hj
    | cons c s =>
      intro e
      simp only [List.head?_cons, Option.some.injEq] at e
      rcases Nat.eq_zero_or_pos j with h | h
      · subst h; simp only [List.getElem_cons_zero] at h0; rw [e] at h0; cases h0
      · exact (hn 0 (by omega) h).2 (by simpa using e)
  unfold bodyF
  rw [if_neg hh]
  dsimp only
  have hp : plainLen s ≤ j := by
    rcases Nat.lt_or_ge j (plainLen s) with h | h
    · have := tw_before openB s j hj h
      rw [h0] at this; cases this
    · exact h
  cases he : endB (s.drop (plainLen s)) with
  | false => rw [Bool.and_false]
  | true =>
    have h2 := (endB_iff s _ (plainLen_le s)).1 he (by omega)
    rcases Nat.lt_or_ge (plainLen s) j with h | h
    · exact absurd h2 (hn _ _ h).1
    · have e : plainLen s = j := by omega
      have : s[plainLen s]'(by omega) = s[j] := by congr 1
      rw [h2, h0] at this; cases this
theorem stop_le (s : List UInt8) : stop s ≤ s.length := tw_le _ _
theorem stopB_ne {c : UInt8} (h : stopB c = true) : c ≠ 32 ∧ c ≠ 61 ∧ c ≠ 34 := by
  unfold stopB at h; simp only [Bool.and_eq_true, bne_iff_ne] at h; exact h
theorem stop_before (s : List UInt8) (k : Nat) (h : k < s.length) (hk : k < stop s) : s[k] ≠ 32 ∧ s[k] ≠ 61 ∧ s[k] ≠ 34 := stopB_ne (tw_before stopB s k h hk)
theorem name_take {s : List UInt8} {k : Nat} (h : nameB (s.take k) = true) (j : Nat) (hj : j < s.length) (hk : j < k) : cont s[j] = true :=
  nameB_cont h _ (List.mem_take_iff_getElem.2 ⟨j, by omega, rfl⟩)
/-- The reference's word is the program's where this is one. -/
theorem wordRef_eq (s : List UInt8) : (wordRef s).body.ok = (wordF s).body.ok ∧ ((wordF s).body.ok = true → wordRef s = wordF s) := by
  unfold wordRef stopEq
  by_cases hs : s[stop s]? = some 61
  · rw [decide_eq_true hs, if_pos rfl]
    obtain ⟨hlt, h61⟩ := List.getElem?_eq_some_iff.1 hs
    have hi : idx 61 s = stop s := idx_eq 61 s _ (stop_le s) (fun _ => h61) (fun j hj hk => (stop_before s j hj hk).2.1)
    by_cases hn : nameB (s.take (stop s)) = true
    · have hk : hasKey s = true := by unfold hasKey; rw [hi, hn, decide_eq_true hlt]; rfl
      have e1 : keyOf s = s.take (stop s) := by unfold keyOf; rw [if_pos hk, hi]
      have e2 : fromOf s = s.drop (stop s + 1) := by unfold fromOf; rw [if_pos hk, hi]
      rw [if_pos hn]
      unfold wordF
      rw [e1, e2, bodyR_eq]
      dsimp only
      cases hb : ((bodyF (s.drop (stop s + 1))).ok && endB (bodyF (s.drop (stop s + 1))).rest) with
      | false => simp
      | true =>
        rw [Bool.and_eq_true] at hb
        simp only [if_true]
        exact ⟨hb.1, fun _ => by rw [body_eta _ hb.1]⟩
    · rw [if_neg hn]
      have hk : hasKey s = false := by unfold hasKey; rw [hi]; simp [hn]
      unfold wordF
      have e2 : fromOf s = s := by unfold fromOf; rw [hk]; simp
      rw [e2]
      dsimp only
      rw [bodyF_at s _ hlt h61 (fun i h hi => ⟨(stop_before s i h hi).1, (stop_before s i h hi).2.2⟩)]
      exact ⟨rfl, fun h => by cases h⟩
  · rw [decide_eq_false hs, if_neg (by simp)]
    have hk : hasKey s = false := by
      cases hk : hasKey s with
      | false => rfl
      | true =>
        exfalso
        unfold hasKey at hk
        rw [Bool.and_eq_true, decide_eq_true_eq] at hk
        refine hs ?_
        have e : stop s = idx 61 s := tw_eq stopB s _ (idx_le _ _) (fun h => by rw [idx_at 61 s h]; rfl) (fun j hj hlt => by
          have h1 := cont_ne (name_take hk.2 j hj hlt)
          have h2 := idx_before 61 s j hj hlt
          unfold stopB; simp [h1.1, h1.2.1, h2])
        rw [e, List.getElem?_eq_getElem hk.1, idx_at 61 s hk.1]
    have e1 : keyOf s = [] := by unfold keyOf; rw [hk]; simp
    have e2 : fromOf s = s := by unfold fromOf; rw [hk]; simp
    unfold wordF
    rw [e1, e2, bodyR_eq]
    dsimp only
    cases hb : ((bodyF s).ok && endB (bodyF s).rest) with
    | false => simp
    | true =>
      rw [Bool.and_eq_true] at hb
      simp only [if_true]
      exact ⟨hb.1, fun _ => by rw [body_eta _ hb.1]⟩
end Go.Proofs.Words3
