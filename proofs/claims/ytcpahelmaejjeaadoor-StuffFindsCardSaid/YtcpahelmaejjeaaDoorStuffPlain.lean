/- The plain law of chapter 10 (stuff): texts as lists of bytes; no program in sight. -/
namespace Go.Proofs.Stuff10

/-- How many bytes stand ahead of the first zero, at most 254. -/
def run (l : List UInt8) : Nat := ((l.take 254).takeWhile (fun b => b != 0)).length
theorem run_le (l : List UInt8) : run l ≤ 254 := by
  unfold run
  exact Nat.le_trans ((List.takeWhile_sublist _).length_le) (List.length_take_le _ _)
theorem run_le' (l : List UInt8) : run l ≤ l.length := by
  unfold run
  exact Nat.le_trans ((List.takeWhile_sublist _).length_le) (List.length_take_le' _ _)

/-- The pieces of a text, each with 'a zero byte is left out behind it', with fuel. -/
def pcs : Nat → List UInt8 → List (List UInt8 × Bool)
  | 0, _ => []
  | f + 1, l =>
    if run l = l.length ∧ l.length < 254 then [(l, true)]
    else if run l = 254 then (l.take 254, false) :: pcs f (l.drop 254)
    else (l.take (run l), true) :: pcs f (l.drop (run l + 1))
def enc (p : List UInt8) : List UInt8 := UInt8.ofNat (1 + p.length) :: p
def put (l : List UInt8) : List UInt8 := (pcs (l.length + 1) l).flatMap fun p => enc p.1

/-- What reading a form gives from place i on: the text so far, the error, its place. -/
def gp : List UInt8 → Nat → Nat → Bool → Bool → List UInt8 → List UInt8 × Nat × Nat
  | [], i, left, full, begun, out => if (begun && left == 0 && !full) = true then (out, 0, 0) else ([], 11, i)
  | c :: l, i, left, full, begun, out =>
    if c = 0 then ([], 3, i)
    else if 0 < left then gp l (i + 1) (left - 1) full begun (out ++ [c])
    else gp l (i + 1) (c.toNat - 1) (c == 255) true (if (begun && !full) = true then out ++ [0] else out)
def getS (l : List UInt8) : List UInt8 × Nat × Nat := gp l 0 0 true false []

theorem takeWhile_all (l : List UInt8) (n : Nat) (h : (l.take n).all (fun b => b != 0) = true) : ((l.take n).takeWhile (fun b => b != 0)).length = (l.take n).length := by
  generalize l.take n = m at *
  induction m with
  | nil => rfl
  | cons b m ih => simp only [List.all_cons, Bool.and_eq_true] at h; simp [h.1, ih h.2]

/-- Ahead of the first zero nothing is zero; behind it, if it is met, stands one. -/
theorem run_spec (l : List UInt8) : (l.take (run l)).all (fun b => b != 0) = true ∧ (run l < 254 → run l < l.length → l[run l]? = some 0) := by
  constructor
  · have h : l.take (run l) = (l.take 254).takeWhile (fun b => b != 0) := by
      have hp : (l.take 254).takeWhile (fun b => b != 0) <+: l.take 254 := List.takeWhile_prefix _
      have := List.prefix_iff_eq_take.1 (hp.trans (List.take_prefix 254 l))
      exact this.symm
    rw [h]
    simp
  · intro h1 h2
    have hlt : ((l.take 254).takeWhile (fun b => b != 0)).length < (l.take 254).length := by
      show run l < _
      rw [List.length_take]; omega
    have : ∀ (m : List UInt8), (m.takeWhile (fun b => b != 0)).length < m.length → m[(m.takeWhile (fun b => b != 0)).length]? = some 0 := by
      intro m
      induction m with
      | nil => simp
      | cons b m ih =>
        by_cases hb : b = 0
        · subst hb; simp
        · simp [hb]; exact ih
    have := this _ hlt
    rw [List.getElem?_take] at this
    split at this
    · exact this
    · exact absurd this (by simp)

theorem run_eq (l : List UInt8) (n : Nat) (hn : n < 254) (h : (l.take n).all (fun b => b != 0) = true) (h0 : l[n]? = some 0) : run l = n := by
  obtain ⟨h1, h2⟩ := run_spec l
  have hle := run_le l
  have hle' := run_le' l
  have hnl : n < l.length := by
    rcases Nat.lt_or_ge n l.length with h | h
    · exact h
    · rw [List.getElem?_eq_none h] at h0; cases h0
  rcases Nat.lt_trichotomy (run l) n with hc | hc | hc
  · have e := h2 (by omega) (by omega)
    have : (l.take n)[run l]? = some 0 := by rw [List.getElem?_take, if_pos hc, e]
    have hm := List.mem_of_getElem? this
    rw [List.all_eq_true] at h
    have := h _ hm; simp at this
  · exact hc
  · have : (l.take (run l))[n]? = some 0 := by rw [List.getElem?_take, if_pos hc, h0]
    have hm := List.mem_of_getElem? this
    rw [List.all_eq_true] at h1
    have := h1 _ hm; simp at this

theorem run_full (l : List UInt8) (n : Nat) (hn : n ≤ 254) (h : (l.take n).all (fun b => b != 0) = true) (hl : n = 254 ∨ l.length = n) (hl2 : n ≤ l.length) : run l = n := by
  have hle := run_le l
  have hle' := run_le' l
  obtain ⟨h1, h2⟩ := run_spec l
  rcases Nat.lt_or_ge (run l) n with hc | hc
  · have e := h2 (by omega) (by omega)
    have : (l.take n)[run l]? = some 0 := by rw [List.getElem?_take, if_pos hc, e]
    have hm := List.mem_of_getElem? this
    rw [List.all_eq_true] at h
    have := h _ hm; simp at this
  · rcases hl with hl | hl <;> omega


theorem all_get {l : List UInt8} {n j : Nat} (h : (l.take n).all (fun b => b != 0) = true) (hj : j < n) : l[j]? ≠ some 0 := by
  intro e
  have : (l.take n)[j]? = some 0 := by rw [List.getElem?_take, if_pos hj, e]
  rw [List.all_eq_true] at h
  have := h _ (List.mem_of_getElem? this); simp at this

theorem pcs_fuel : ∀ (f g : Nat) (l : List UInt8), l.length < f → l.length < g → pcs f l = pcs g l
  | 0, _, _, h, _ => by omega
  | _, 0, _, _, h => by omega
  | f + 1, g + 1, l, hf, hg => by
    unfold pcs
    have hr := run_le' l
    split
    · rfl
    · rename_i h1
      split
      · rename_i h2
        rw [pcs_fuel f g (l.drop 254) (by rw [List.length_drop]; omega) (by rw [List.length_drop]; omega)]
      · rename_i h2
        have hl : run l < l.length := by
          have := run_le l
          rcases Nat.lt_or_ge (run l) l.length with h | h
          · exact h
          · exact absurd ⟨by omega, by omega⟩ h1
        rw [pcs_fuel f g (l.drop (run l + 1)) (by rw [List.length_drop]; omega) (by rw [List.length_drop]; omega)]

theorem pcs_last {l : List UInt8} (f : Nat) (h1 : run l = l.length) (h2 : l.length < 254) : pcs (f + 1) l = [(l, true)] := by rw [pcs, if_pos ⟨h1, h2⟩]
theorem pcs_full {l : List UInt8} (f : Nat) (h : run l = 254) : pcs (f + 1) l = (l.take 254, false) :: pcs f (l.drop 254) := by
  have := run_le' l
  rw [pcs, if_neg (by omega), if_pos h]
theorem pcs_zero {l : List UInt8} (f : Nat) (h1 : run l < l.length) (h2 : run l < 254) : pcs (f + 1) l = (l.take (run l), true) :: pcs f (l.drop (run l + 1)) := by
  rw [pcs, if_neg (by omega), if_neg (by omega)]
theorem run_cases (l : List UInt8) : (run l = l.length ∧ l.length < 254) ∨ run l = 254 ∨ (run l < l.length ∧ run l < 254 ∧ l[run l]? = some 0) := by
  have h1 := run_le l; have h2 := run_le' l
  rcases Nat.lt_or_ge (run l) 254 with h | h
  · rcases Nat.lt_or_ge (run l) l.length with k | k
    · exact .inr (.inr ⟨k, h, (run_spec l).2 h k⟩)
    · exact .inl ⟨by omega, by omega⟩
  · exact .inr (.inl (by omega))
theorem pcs_le : ∀ (f : Nat) (l : List UInt8), ∀ p ∈ pcs f l, p.1.length ≤ 254
  | 0, _, _, h => by simp [pcs] at h
  | f + 1, l, p, h => by
    rcases run_cases l with ⟨h1, h2⟩ | h1 | ⟨h1, h2, _⟩
    · rw [pcs_last f h1 h2] at h
      simp at h; subst h; simp; omega
    · rw [pcs_full f h1, List.mem_cons] at h
      rcases h with rfl | h
      · simp; omega
      · exact pcs_le f _ p h
    · rw [pcs_zero f h1 h2, List.mem_cons] at h
      rcases h with rfl | h
      · simp; omega
      · exact pcs_le f _ p h
theorem put_last {l : List UInt8} (h1 : run l = l.length) (h2 : l.length < 254) : put l = enc l := by
  unfold put pcs; rw [if_pos ⟨h1, h2⟩]; simp
theorem put_full {l : List UInt8} (h : run l = 254) : put l = enc (l.take 254) ++ put (l.drop 254) := by
  have hr := run_le' l
  unfold put
  rw [pcs, if_neg (by omega), if_pos h, List.flatMap_cons, pcs_fuel l.length ((l.drop 254).length + 1) (l.drop 254) (by rw [List.length_drop]; omega) (by omega)]
theorem put_zero {l : List UInt8} (h1 : run l < l.length) (h2 : run l < 254) : put l = enc (l.take (run l)) ++ put (l.drop (run l + 1)) := by
  unfold put
  rw [pcs, if_neg (by omega), if_neg (by omega), List.flatMap_cons, pcs_fuel l.length ((l.drop (run l + 1)).length + 1) (l.drop (run l + 1)) (by rw [List.length_drop]; omega) (by omega)]
theorem split_at {l : List UInt8} {n : Nat} {b : UInt8} (h : l[n]? = some b) : l = l.take n ++ b :: l.drop (n + 1) := by
  have hn : n < l.length := by
    rcases Nat.lt_or_ge n l.length with k | k
    · exact k
    · rw [List.getElem?_eq_none k] at h; cases h
  rw [List.getElem?_eq_getElem hn] at h
  have e := List.drop_eq_getElem_cons hn
  cases h
  rw [← e, List.take_append_drop]

theorem gp_block : ∀ (p rest : List UInt8) (i : Nat) (full begun : Bool) (out : List UInt8), p.all (fun b => b != 0) = true → gp (p ++ rest) i p.length full begun out = gp rest (i + p.length) 0 full begun (out ++ p)
  | [], rest, i, full, begun, out, _ => by simp
  | b :: p, rest, i, full, begun, out, h => by
    simp only [List.all_cons, Bool.and_eq_true, bne_iff_ne] at h
    rw [List.cons_append, gp, if_neg h.1, if_pos (by simp), List.length_cons, Nat.add_sub_cancel, gp_block p rest _ _ _ _ h.2]
    rw [show i + 1 + p.length = i + (p.length + 1) by omega, List.append_assoc]; rfl

theorem ofNat_ne {n : Nat} (h0 : 0 < n) (h : n < 256) : UInt8.ofNat n ≠ 0 := by
  intro e
  have := congrArg UInt8.toNat e
  rw [UInt8.toNat_ofNat'] at this
  simp at this; omega
theorem ofNat_nat {n : Nat} (h : n < 256) : (UInt8.ofNat n).toNat = n := by rw [UInt8.toNat_ofNat']; omega
theorem ofNat_255 {n : Nat} (h : n < 256) : (UInt8.ofNat n == 255) = decide (n = 255) := by
  by_cases e : n = 255
  · subst e; rfl
  · have : UInt8.ofNat n ≠ 255 := fun h' => e (by have := congrArg UInt8.toNat h'; rw [ofNat_nat h] at this; exact this)
    simp [this, e]

/-- One piece with its head is read. -/
theorem gp_enc (p rest : List UInt8) (i : Nat) (full begun : Bool) (out : List UInt8) (hp : p.all (fun b => b != 0) = true) (hl : p.length ≤ 254) :
    gp (enc p ++ rest) i 0 full begun out = gp rest (i + 1 + p.length) 0 (decide (p.length = 254)) true ((if (begun && !full) = true then out ++ [0] else out) ++ p) := by
  unfold enc
  rw [List.cons_append, gp, if_neg (ofNat_ne (by omega) (by omega)), if_neg (by omega), ofNat_nat (by omega), Nat.add_sub_cancel_left, gp_block _ _ _ _ _ _ hp, ofNat_255 (by omega)]
  congr 1
  exact decide_eq_decide.2 (by omega)

theorem gp_put : ∀ (n : Nat) (l : List UInt8), l.length ≤ n → ∀ (i : Nat) (full begun : Bool) (out : List UInt8), gp (put l) i 0 full begun out = ((if (begun && !full) = true then out ++ [0] else out) ++ l, 0, 0) := by
  intro n
  induction n with
  | zero =>
    intro l hl i full begun out
    obtain rfl : l = [] := List.length_eq_zero_iff.1 (by omega)
    have := gp_enc [] [] i full begun out rfl (by simp)
    rw [List.append_nil] at this
    rw [put_last (by decide) (by decide), this]
    simp [gp]
  | succ n ih =>
    intro l hl i full begun out
    obtain ⟨hz, _⟩ := run_spec l
    rcases run_cases l with ⟨h1, h2⟩ | h | ⟨h1, h2, h3⟩
    · have := gp_enc l [] i full begun out (by rw [h1, List.take_length] at hz; exact hz) (by omega)
      rw [List.append_nil] at this
      rw [put_last h1 h2, this, gp]
      simp [show ¬ l.length = 254 by omega]
    · have hr := run_le' l
      have hlen : (l.take 254).length = 254 := by rw [List.length_take]; omega
      rw [put_full h, gp_enc _ _ _ _ _ _ (by rw [h] at hz; exact hz) (by omega), ih _ (by rw [List.length_drop]; omega), hlen]
      simp [List.append_assoc, List.take_append_drop]
    · have hlen : (l.take (run l)).length = run l := by rw [List.length_take]; omega
      rw [put_zero h1 h2, gp_enc _ _ _ _ _ _ hz (by omega), ih _ (by rw [List.length_drop]; omega), hlen]
      have e := split_at h3
      generalize hr : run l = r at *
      have hne : ¬ r = 254 := by omega
      simp only [hne, decide_false, Bool.not_false, Bool.and_self, if_true, List.append_assoc, List.singleton_append]
      rw [← e]

/-- What is put is read back. -/
theorem get_put (l : List UInt8) : getS (put l) = (l, 0, 0) := by
  unfold getS; rw [gp_put l.length l (Nat.le_refl _)]; simp

theorem gp_take : ∀ (l : List UInt8) (k i : Nat) (full : Bool) (out t : List UInt8), gp l i k full true out = (t, 0, 0) → k ≤ l.length ∧ (l.take k).all (fun b => b != 0) = true
  | l, 0, _, _, _, _, _ => by simp
  | [], k + 1, i, full, out, t, h => by simp [gp] at h
  | b :: l, k + 1, i, full, out, t, h => by
    rw [gp] at h
    by_cases hb : b = 0
    · rw [if_pos hb] at h; simp at h
    · rw [if_neg hb, if_pos (by omega), Nat.add_sub_cancel] at h
      obtain ⟨h1, h2⟩ := gp_take l k _ _ _ _ h
      exact ⟨by simp; omega, by simp [hb]; simpa using h2⟩

theorem gp_only : ∀ (n : Nat) (s : List UInt8), s.length ≤ n → s ≠ [] → ∀ (i : Nat) (full begun : Bool) (out t : List UInt8), gp s i 0 full begun out = (t, 0, 0) →
    ∃ u, t = (if (begun && !full) = true then out ++ [0] else out) ++ u ∧ put u = s := by
  intro n
  induction n with
  | zero => intro s hs hne; exact absurd (List.length_eq_zero_iff.1 (by omega)) hne
  | succ n ih =>
    intro s hs hne i full begun out t h
    match s, hne, hs with
    | c :: l, _, hs =>
      simp only [List.length_cons] at hs
      rw [gp] at h
      by_cases hc : c = 0
      · rw [if_pos hc] at h; simp at h
      rw [if_neg hc, if_neg (by omega)] at h
      generalize (if (begun && !full) = true then out ++ [0] else out) = out' at *
      have hcn : 0 < c.toNat := by
        rcases Nat.eq_zero_or_pos c.toNat with e | e
        · exact absurd (UInt8.toNat_inj.1 (by rw [e]; rfl)) hc
        · exact e
      have hc256 : c.toNat < 256 := c.toNat_lt
      obtain ⟨h1, h2⟩ := gp_take _ _ _ _ _ _ h
      have hlen : (l.take (c.toNat - 1)).length = c.toNat - 1 := by rw [List.length_take]; omega
      have hblock := gp_block (l.take (c.toNat - 1)) (l.drop (c.toNat - 1)) (i + 1) (c == 255) true out' h2
      rw [List.take_append_drop, hlen] at hblock
      rw [hblock] at h
      have henc : enc (l.take (c.toNat - 1)) = c :: l.take (c.toNat - 1) := by
        unfold enc; rw [hlen]; congr 1; apply UInt8.toNat_inj.1; rw [ofNat_nat (by omega)]; omega
      by_cases hr : l.drop (c.toNat - 1) = []
      · rw [hr, gp] at h
        have hl : l.take (c.toNat - 1) = l := by
          have := List.take_append_drop (c.toNat - 1) l
          rw [hr, List.append_nil] at this; exact this
        by_cases hf : (c == 255) = true
        · rw [hf] at h; simp at h
        · have hf' : (c == 255) = false := by simpa using hf
          rw [hf'] at h
          simp only [BEq.rfl, Bool.and_self, Bool.not_false, if_true, Prod.mk.injEq, and_true] at h
          refine ⟨l.take (c.toNat - 1), h.symm, ?_⟩
          have hne : c.toNat ≠ 255 := fun e => hf (by have : c = 255 := UInt8.toNat_inj.1 e; rw [this]; rfl)
          rw [hl] at hlen h2 henc ⊢
          have hall : (l.take l.length).all (fun b => b != 0) = true := by rw [List.take_length]; exact h2
          rw [put_last (run_full l l.length (by omega) hall (.inr rfl) (Nat.le_refl _)) (by omega), henc]
      · obtain ⟨u, hu, hput⟩ := ih (l.drop (c.toNat - 1)) (by rw [List.length_drop]; omega) hr _ _ _ _ _ h
        by_cases hf : c = 255
        · subst hf
          simp only [show (255 : UInt8).toNat - 1 = 254 by rfl] at *
          refine ⟨l.take 254 ++ u, ?_, ?_⟩
          · simp at hu; rw [hu]
          · have hall : ((l.take 254 ++ u).take 254).all (fun b => b != 0) = true := by rw [List.take_append_of_le_length (by omega), List.take_of_length_le (by omega)]; exact h2
            rw [put_full (run_full _ 254 (Nat.le_refl _) hall (.inl rfl) (by rw [List.length_append]; omega)), List.take_append_of_le_length (by omega), List.take_of_length_le (by omega), List.drop_append_of_le_length (by omega), List.drop_of_length_le (by omega), List.nil_append, hput, henc, List.cons_append, List.take_append_drop]
        · have hne : c.toNat ≠ 255 := fun e => hf (UInt8.toNat_inj.1 e)
          have hf' : (c == 255) = false := by simpa using hf
          rw [hf'] at hu
          generalize hk : c.toNat - 1 = k at *
          refine ⟨l.take k ++ 0 :: u, ?_, ?_⟩
          · simp at hu; rw [hu]
          · have hall : ((l.take k ++ 0 :: u).take k).all (fun b => b != 0) = true := by rw [List.take_append_of_le_length (by omega), List.take_of_length_le (by omega)]; exact h2
            have hz : (l.take k ++ 0 :: u)[k]? = some 0 := by rw [List.getElem?_append_right (by omega), hlen]; simp
            have hrun := run_eq (l.take k ++ 0 :: u) k (by omega) hall hz
            rw [put_zero (by rw [hrun, List.length_append, hlen]; simp) (by omega), hrun, List.take_append_of_le_length (by omega), List.take_of_length_le (by omega),
              show (l.take k ++ 0 :: u).drop (k + 1) = u by rw [List.drop_append, hlen]; simp [show k + 1 - k = 1 by omega]; omega, hput, henc, List.cons_append, List.take_append_drop]

/-- What is read without a fault is the form of its text. -/
theorem put_get (s t : List UInt8) (h : getS s = (t, 0, 0)) : put t = s := by
  unfold getS at h
  by_cases hs : s = []
  · subst hs; simp [gp] at h
  · obtain ⟨u, hu, hput⟩ := gp_only s.length s (Nat.le_refl _) hs _ _ _ _ _ h
    simp at hu; rw [hu]; exact hput

theorem gp_ends : ∀ (l : List UInt8) (i left : Nat) (full begun : Bool) (out : List UInt8), ((gp l i left full begun out).2.1 = 0 ∧ (gp l i left full begun out).2.2 = 0) ∨
    ((gp l i left full begun out).1 = [] ∧ ((gp l i left full begun out).2.1 = 3 ∨ (gp l i left full begun out).2.1 = 11) ∧ (gp l i left full begun out).2.2 ≤ i + l.length)
  | [], i, left, full, begun, out => by
    rw [gp]
    split
    · exact .inl ⟨rfl, rfl⟩
    · exact .inr ⟨rfl, .inr rfl, by simp⟩
  | c :: l, i, left, full, begun, out => by
    rw [gp]
    split
    · exact .inr ⟨rfl, .inl rfl, by simp⟩
    · split
      · rcases gp_ends l (i + 1) (left - 1) full begun (out ++ [c]) with h | ⟨h1, h2, h3⟩
        · exact .inl h
        · exact .inr ⟨h1, h2, by simp only [List.length_cons]; omega⟩
      · rcases gp_ends l (i + 1) (c.toNat - 1) (c == 255) true (if (begun && !full) = true then out ++ [0] else out) with h | ⟨h1, h2, h3⟩
        · exact .inl h
        · exact .inr ⟨h1, h2, by simp only [List.length_cons]; omega⟩
theorem get_ends (l : List UInt8) : ((getS l).2.1 = 0 ∧ (getS l).2.2 = 0) ∨ ((getS l).1 = [] ∧ ((getS l).2.1 = 3 ∨ (getS l).2.1 = 11) ∧ (getS l).2.2 ≤ l.length) := by
  have := gp_ends l 0 0 true false []
  rw [Nat.zero_add] at this; exact this
theorem enc_all {p : List UInt8} (hp : p.all (fun b => b != 0) = true) (hl : p.length ≤ 254) : (enc p).all (fun b => b != 0) = true := by
  unfold enc
  rw [List.all_cons, hp, Bool.and_true, bne_iff_ne]
  exact ofNat_ne (by omega) (by omega)
theorem enc_length (p : List UInt8) : (enc p).length = p.length + 1 := rfl

theorem put_sizes : ∀ (n : Nat) (l : List UInt8), l.length ≤ n → (put l).all (fun b => b != 0) = true ∧ l.length < (put l).length ∧ (put l).length ≤ l.length + 1 + l.length / 254 := by
  intro n
  induction n with
  | zero =>
    intro l hl
    obtain rfl : l = [] := List.length_eq_zero_iff.1 (by omega)
    exact ⟨by decide, by decide, by decide⟩
  | succ n ih =>
    intro l hl
    obtain ⟨hz, _⟩ := run_spec l
    have hr := run_le' l
    rcases run_cases l with ⟨h1, h2⟩ | h | ⟨h1, h2, h3⟩
    · rw [put_last h1 h2]
      refine ⟨enc_all (by rw [h1, List.take_length] at hz; exact hz) (by omega), ?_, ?_⟩ <;> rw [enc_length] <;> omega
    · obtain ⟨a, b, c⟩ := ih (l.drop 254) (by rw [List.length_drop]; omega)
      have hlen : (l.take 254).length = 254 := by rw [List.length_take]; omega
      rw [List.length_drop] at b c
      rw [put_full h]
      refine ⟨?_, ?_, ?_⟩
      · rw [List.all_append, a, enc_all (by rw [h] at hz; exact hz) (by omega)]; rfl
      · rw [List.length_append, enc_length]; omega
      · rw [List.length_append, enc_length]; omega
    · obtain ⟨a, b, c⟩ := ih (l.drop (run l + 1)) (by rw [List.length_drop]; omega)
      have hlen : (l.take (run l)).length = run l := by rw [List.length_take]; omega
      rw [List.length_drop] at b c
      rw [put_zero h1 h2]
      refine ⟨?_, ?_, ?_⟩
      · rw [List.all_append, a, enc_all hz (by omega)]; rfl
      · rw [List.length_append, enc_length]; omega
      · rw [List.length_append, enc_length]
        have : (l.length - (run l + 1)) / 254 ≤ l.length / 254 := Nat.div_le_div_right (by omega)
        omega

/-- Read without an error: then it is the form of what was read. -/
theorem get_ok {l : List UInt8} (h : (getS l).2.1 = 0) : put (getS l).1 = l ∧ (getS l).1.length < l.length ∧ getS l = ((getS l).1, 0, 0) := by
  have h2 : (getS l).2.2 = 0 := by
    rcases get_ends l with h1 | ⟨_, h1, _⟩
    · exact h1.2
    · omega
  have e : getS l = ((getS l).1, 0, 0) := by
    generalize getS l = r at *
    obtain ⟨a, b, c⟩ := r
    simp at h h2; subst h; subst h2; rfl
  have hp := put_get l _ e
  have hz := ((put_sizes _ (getS l).1 (Nat.le_refl _)).2.1)
  rw [hp] at hz
  exact ⟨hp, hz, e⟩

/-- A zero byte behind the text changes nothing of where its first piece ends. -/
theorem run_snoc (l : List UInt8) : run (l ++ [0]) = run l := by
  obtain ⟨hz, _⟩ := run_spec l
  rcases run_cases l with ⟨h1, h2⟩ | h | ⟨h1, h2, h3⟩
  · rw [h1] at hz ⊢
    refine run_eq _ _ h2 ?_ (by simp)
    rw [List.take_append_of_le_length (Nat.le_refl _)]; exact hz
  · have := run_le' l
    rw [h] at hz ⊢
    refine run_full _ _ (Nat.le_refl _) ?_ (.inl rfl) (by simp; omega)
    rw [List.take_append_of_le_length (by omega)]; exact hz
  · refine run_eq _ _ h2 ?_ ?_
    · rw [List.take_append_of_le_length (by omega)]; exact hz
    · rw [List.getElem?_append_left h1]; exact h3
end Go.Proofs.Stuff10
