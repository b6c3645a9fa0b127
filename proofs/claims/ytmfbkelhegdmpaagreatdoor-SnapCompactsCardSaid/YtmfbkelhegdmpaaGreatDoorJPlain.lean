/- Texts of small laws, one behind the other. -/
import Derived.Test.YtmfbkelhegdmpaaGreatDoorSumPlain
import Derived.Test.YtmfbkelhegdmpaaGreatDoorKitAll
/- Chapter 12, the plain law: the form of a record, the walk over the records in a row of bytes. -/
namespace Go.Proofs.Journal12
open Go.Proofs.Sum2

def formJ (x : List UInt8) : List UInt8 :=
  [183, UInt8.ofNat (x.length / 256), UInt8.ofNat x.length, 255 - UInt8.ofNat (x.length / 256), 255 - UInt8.ofNat x.length] ++ (text32 (crc32 x) ++ (x ++ [183]))
theorem formJ_length (x : List UInt8) : (formJ x).length = x.length + 10 := by
  unfold formJ text32
  simp
def lenJ (s : List UInt8) : Nat := 256 * (s[1]?.getD 0).toNat + (s[2]?.getD 0).toNat
def recJ (s : List UInt8) : Option (List UInt8) :=
  if s.length < 10 ∨ lenJ s < 1 ∨ 60000 < lenJ s ∨ s.length < lenJ s + 10 ∨ s.take (lenJ s + 10) ≠ formJ ((s.drop 9).take (lenJ s)) then none else some ((s.drop 9).take (lenJ s))
theorem lenJ_form (x t : List UInt8) (h : x.length ≤ 60000) : lenJ (formJ x ++ t) = x.length := by
  unfold lenJ formJ
  simp only [List.cons_append, List.getElem?_cons_succ, List.getElem?_cons_zero, Option.getD_some]
  rw [UInt8.toNat_ofNat', UInt8.toNat_ofNat']
  omega
theorem drop9 (x t : List UInt8) : (formJ x ++ t).drop 9 = x ++ ([183] ++ t) := by
  unfold formJ text32
  simp
theorem recJ_form (x t : List UInt8) (h1 : 1 ≤ x.length) (h2 : x.length ≤ 60000) : recJ (formJ x ++ t) = some x := by
  have hl := lenJ_form x t h2
  have hx : ((formJ x ++ t).drop 9).take x.length = x := by rw [drop9, List.take_left']; rfl
  unfold recJ
  rw [hl, hx, if_neg]
  have hs : (formJ x ++ t).length = x.length + 10 + t.length := by rw [List.length_append, formJ_length]
  rintro (h | h | h | h | h)
  · omega
  · omega
  · omega
  · omega
  · exact h (by rw [List.take_left' (formJ_length x)])
theorem recJ_some {s x : List UInt8} (h : recJ s = some x) : s = formJ x ++ s.drop (x.length + 10) ∧ 1 ≤ x.length ∧ x.length ≤ 60000 := by
  unfold recJ at h
  split at h
  · cases h
  · rename_i hc
    simp only [not_or, Decidable.not_not, Nat.not_lt] at hc
    obtain ⟨c1, c2, c3, c4, c5⟩ := hc
    have hx := Option.some.inj h
    have hn : x.length = lenJ s := by rw [← hx, List.length_take, List.length_drop]; omega
    rw [hn]
    refine ⟨?_, c2, c3⟩
    rw [← hx, ← c5, List.take_append_drop]
theorem recJ_head {s x : List UInt8} (h : recJ s = some x) : s[0]? = some 183 := by
  rw [(recJ_some h).1]
  rfl
def walkJ : Nat → List UInt8 → List (List UInt8)
  | 0, _ => []
  | n + 1, s => match recJ s with
    | none => []
    | some x => x :: walkJ n (s.drop (x.length + 10))
def sizeJ (l : List (List UInt8)) : Nat := (l.map fun x => x.length + 10).sum
abbrev formsJ (l : List (List UInt8)) : List UInt8 := l.flatMap formJ
theorem walk_forms : ∀ (l : List (List UInt8)) (t : List UInt8) (n : Nat), (∀ x ∈ l, 1 ≤ x.length ∧ x.length ≤ 60000) → l.length < n → recJ t = none → walkJ n (formsJ l ++ t) = l
  | [], t, n + 1, _, _, h => by
    show (match recJ t with | none => [] | some x => x :: walkJ n (t.drop (x.length + 10))) = []
    rw [h]
  | x :: l, t, n + 1, hl, hn, h => by
    have e : formsJ (x :: l) ++ t = formJ x ++ (formsJ l ++ t) := by unfold formsJ; rw [List.flatMap_cons, List.append_assoc]
    obtain ⟨a, b⟩ := hl x List.mem_cons_self
    rw [e]
    unfold walkJ
    rw [recJ_form x _ a b]
    show x :: walkJ n ((formJ x ++ (formsJ l ++ t)).drop (x.length + 10)) = _
    rw [List.drop_left' (formJ_length x), walk_forms l t n (fun y hy => hl y (List.mem_cons_of_mem _ hy)) (Nat.lt_of_succ_lt_succ hn) h]
theorem recJ_zeros (n : Nat) (t : List UInt8) : recJ (List.replicate (n + 1) 0 ++ t) = none := by
  match h : recJ (List.replicate (n + 1) 0 ++ t) with
  | none => rfl
  | some x =>
    have := recJ_head h
    rw [List.replicate_succ] at this
    simp at this
theorem recJ_nil : recJ [] = none := rfl
theorem form_get0 (x t : List UInt8) : (formJ x ++ t)[0]? = some 183 := rfl
theorem form_get1 (x t : List UInt8) : (formJ x ++ t)[1]? = some (UInt8.ofNat (x.length / 256)) := rfl
theorem form_get2 (x t : List UInt8) : (formJ x ++ t)[2]? = some (UInt8.ofNat x.length) := rfl
theorem form_get3 (x t : List UInt8) : (formJ x ++ t)[3]? = some (255 - UInt8.ofNat (x.length / 256)) := rfl
theorem form_get4 (x t : List UInt8) : (formJ x ++ t)[4]? = some (255 - UInt8.ofNat x.length) := rfl
theorem form_last (x t : List UInt8) : (formJ x ++ t)[x.length + 9]? = some 183 := by
  have e : formJ x ++ t = ([183, UInt8.ofNat (x.length / 256), UInt8.ofNat x.length, 255 - UInt8.ofNat (x.length / 256), 255 - UInt8.ofNat x.length] ++ text32 (crc32 x) ++ x) ++ ([183] ++ t) := by unfold formJ; simp
  rw [e, List.getElem?_append_right (by simp [text32])]
  simp [text32]
theorem down_inj (n : Nat) {x y : Nat} (hx : x < 4294967296) (hy : y < 4294967296) (e : iter down n x = iter down n y) : x = y :=
  iter_inj (fun _ h => down_lt h) (fun _ h => back_down h) n hx hy e
theorem byte32_inj {r s b c : Nat} (hr : r < 4294967296) (hs : s < 4294967296) (hb : b < 256) (hc : c < 256) (e : byte32 r b = byte32 s c) : r ^^^ b = s ^^^ c :=
  down_inj 8 (Nat.xor_lt_two_pow (n := 32) hr (by omega)) (Nat.xor_lt_two_pow (n := 32) hs (by omega)) e
theorem reg32_inj : ∀ (l : List UInt8) {r s : Nat}, r < 4294967296 → s < 4294967296 → reg32 r l = reg32 s l → r = s
  | [], _, _, _, _, e => e
  | b :: l, r, s, hr, hs, e => by
    have h := reg32_inj l (byte32_lt hr (u8lt b)) (byte32_lt hs (u8lt b)) e
    have h2 := byte32_inj hr hs (u8lt b) (u8lt b) h
    have := congrArg (· ^^^ b.toNat) h2
    simpa only [xor_cancel] using this
theorem crc32_one (a c : List UInt8) (b d : UInt8) (e : crc32 (a ++ b :: c) = crc32 (a ++ d :: c)) : b = d := by
  have e1 : reg32 4294967295 (a ++ b :: c) = reg32 4294967295 (a ++ d :: c) := by
    have := congrArg (· ^^^ 4294967295) e
    unfold crc32 at this
    simpa only [xor_cancel] using this
  rw [reg32_append, reg32_append] at e1
  have hA := reg32_lt a (r := 4294967295) (by decide)
  generalize reg32 4294967295 a = A at *
  have h := reg32_inj c (byte32_lt hA (u8lt b)) (byte32_lt hA (u8lt d)) e1
  have h2 := byte32_inj hA hA (u8lt b) (u8lt d) h
  have h3 := congrArg (A ^^^ ·) h2
  simp only [← Nat.xor_assoc, Nat.xor_self, Nat.zero_xor] at h3
  exact UInt8.toNat_inj.1 h3

theorem sub255 {a b : UInt8} (h : 255 - a = 255 - b) : a = b := by
  have := congrArg UInt8.toNat h
  rw [UInt8.toNat_sub, UInt8.toNat_sub] at this
  apply UInt8.toNat_inj.1
  have h1 := a.toNat_lt; have h2 := b.toNat_lt
  have h3 : (255 : UInt8).toNat = 255 := rfl
  rw [h3] at this
  omega
theorem lenJ_two {s : List UInt8} {x : List UInt8} (hx : x.length ≤ 60000) (h1 : s[1]? = some (UInt8.ofNat (x.length / 256))) (h2 : s[2]? = some (UInt8.ofNat x.length)) : lenJ s = x.length := by
  unfold lenJ
  rw [h1, h2]
  simp only [Option.getD_some]
  rw [UInt8.toNat_ofNat', UInt8.toNat_ofNat']
  omega
/-- A torn form is no record. -/
theorem torn_none (x : List UInt8) (hx : x.length ≤ 60000) (t m : Nat) (ht : t < x.length + 10) : recJ ((formJ x).take t ++ List.replicate m 0) = none := by
  match h : recJ ((formJ x).take t ++ List.replicate m 0) with
  | none => rfl
  | some y =>
    exfalso
    obtain ⟨hs, hy1, hy2⟩ := recJ_some h
    have hfl := formJ_length x
    have tl : ((formJ x).take t).length = t := by rw [List.length_take]; omega
    have zero : ∀ i, t ≤ i → ∀ b, ((formJ x).take t ++ List.replicate m 0)[i]? = some b → b = 0 := fun i hi b hb => by
      rw [List.getElem?_append_right (by omega), List.getElem?_replicate] at hb
      split at hb
      · exact (Option.some.inj hb).symm
      · cases hb
    have kept : ∀ i, i < t → ((formJ x).take t ++ List.replicate m 0)[i]? = (formJ x)[i]? := fun i hi => by
      rw [List.getElem?_append_left (by omega), List.getElem?_take_of_lt hi]
    have at0 : ((formJ x).take t ++ List.replicate m 0)[0]? = some 183 := by rw [hs]; rfl
    have at1 : ((formJ x).take t ++ List.replicate m 0)[1]? = some (UInt8.ofNat (y.length / 256)) := by rw [hs]; rfl
    have at2 : ((formJ x).take t ++ List.replicate m 0)[2]? = some (UInt8.ofNat y.length) := by rw [hs]; rfl
    have at3 : ((formJ x).take t ++ List.replicate m 0)[3]? = some (255 - UInt8.ofNat (y.length / 256)) := by rw [hs]; rfl
    have at4 : ((formJ x).take t ++ List.replicate m 0)[4]? = some (255 - UInt8.ofNat y.length) := by rw [hs]; rfl
    have atl : ((formJ x).take t ++ List.replicate m 0)[y.length + 9]? = some 183 := by rw [hs]; exact form_last y _
    by_cases h1 : 1 < t
    · by_cases h2 : 2 < t
      · have e1 := at1; have e2 := at2
        rw [kept 1 h1] at e1
        rw [kept 2 h2] at e2
        have f1 : (formJ x)[1]? = some (UInt8.ofNat (x.length / 256)) := rfl
        have f2 : (formJ x)[2]? = some (UInt8.ofNat x.length) := rfl
        have l1 := lenJ_two (s := (formJ x).take t ++ List.replicate m 0) hy2 at1 at2
        have l2 := lenJ_two (s := (formJ x).take t ++ List.replicate m 0) hx (by rw [kept 1 h1]; rfl) (by rw [kept 2 h2]; rfl)
        have := zero (y.length + 9) (by omega) _ atl
        exact absurd this (by decide)
      · have e2 := zero 2 (by omega) _ at2
        have e4 := zero 4 (by omega) _ at4
        rw [e2] at e4
        exact absurd e4 (by decide)
    · have e1 := zero 1 (by omega) _ at1
      have e3 := zero 3 (by omega) _ at3
      rw [e1] at e3
      exact absurd e3 (by decide)
theorem form_head (x t : List UInt8) (i : Nat) (h : i < 4) : (formJ x ++ t)[5 + i]? = (text32 (crc32 x))[i]? := by
  have e : formJ x ++ t = [183, UInt8.ofNat (x.length / 256), UInt8.ofNat x.length, 255 - UInt8.ofNat (x.length / 256), 255 - UInt8.ofNat x.length] ++ (text32 (crc32 x) ++ (x ++ ([183] ++ t))) := by unfold formJ; simp
  rw [e, List.getElem?_append_right (by simp), List.getElem?_append_left (by simp [text32]; omega)]
  congr 1
  simp
theorem form_data (x t : List UInt8) (i : Nat) (h : i < x.length) : (formJ x ++ t)[9 + i]? = x[i]? := by
  have e : formJ x ++ t = ([183, UInt8.ofNat (x.length / 256), UInt8.ofNat x.length, 255 - UInt8.ofNat (x.length / 256), 255 - UInt8.ofNat x.length] ++ text32 (crc32 x)) ++ (x ++ ([183] ++ t)) := by unfold formJ; simp
  rw [e, List.getElem?_append_right (by simp [text32]), List.getElem?_append_left (by simp [text32]; omega)]
  congr 1
  simp [text32]
/-- A form with one byte changed is no record. -/
theorem spoilt_none (x t : List UInt8) (hx : x.length ≤ 60000) (j : Nat) (hj : j < x.length + 10) (b : UInt8) (hb : (formJ x)[j]? ≠ some b) : recJ ((formJ x).set j b ++ t) = none := by
  match h : recJ ((formJ x).set j b ++ t) with
  | none => rfl
  | some y =>
    exfalso
    obtain ⟨hs, hy1, hy2⟩ := recJ_some h
    have hfl := formJ_length x
    have here : ((formJ x).set j b ++ t)[j]? = some b := by
      rw [List.getElem?_append_left (by rw [List.length_set]; omega), List.getElem?_set_self (by omega)]
    have kept : ∀ i, i ≠ j → i < x.length + 10 → ((formJ x).set j b ++ t)[i]? = (formJ x)[i]? := fun i hi hl => by
      rw [List.getElem?_append_left (by rw [List.length_set]; omega), List.getElem?_set_ne (by omega)]
    generalize hS : (formJ x).set j b ++ t = S at *
    have at0 : S[0]? = some 183 := by rw [hs]; rfl
    have at1 : S[1]? = some (UInt8.ofNat (y.length / 256)) := by rw [hs]; rfl
    have at2 : S[2]? = some (UInt8.ofNat y.length) := by rw [hs]; rfl
    have at3 : S[3]? = some (255 - UInt8.ofNat (y.length / 256)) := by rw [hs]; rfl
    have at4 : S[4]? = some (255 - UInt8.ofNat y.length) := by rw [hs]; rfl
    have atl : S[y.length + 9]? = some 183 := by rw [hs]; exact form_last y _
    have f0 : (formJ x)[0]? = some 183 := rfl
    have f1 : (formJ x)[1]? = some (UInt8.ofNat (x.length / 256)) := rfl
    have f2 : (formJ x)[2]? = some (UInt8.ofNat x.length) := rfl
    have f3 : (formJ x)[3]? = some (255 - UInt8.ofNat (x.length / 256)) := rfl
    have f4 : (formJ x)[4]? = some (255 - UInt8.ofNat x.length) := rfl
    by_cases j0 : j = 0
    · subst j0; rw [at0] at here; rw [f0] at hb; exact hb here
    by_cases j1 : j = 1
    · subst j1
      rw [at1] at here
      have := at3.symm.trans ((kept 3 (by omega) (by omega)).trans f3)
      rw [sub255 (Option.some.inj this)] at here
      rw [f1] at hb; exact hb here
    by_cases j2 : j = 2
    · subst j2
      rw [at2] at here
      have := at4.symm.trans ((kept 4 (by omega) (by omega)).trans f4)
      rw [sub255 (Option.some.inj this)] at here
      rw [f2] at hb; exact hb here
    have e1 := (kept 1 (by omega) (by omega)).trans f1
    have e2 := (kept 2 (by omega) (by omega)).trans f2
    have hl : y.length = x.length := (lenJ_two (s := S) hy2 at1 at2).symm.trans (lenJ_two (s := S) hx e1 e2)
    rw [hl] at at3 at4 atl
    by_cases j3 : j = 3
    · subst j3; rw [at3] at here; rw [f3] at hb; exact hb here
    by_cases j4 : j = 4
    · subst j4; rw [at4] at here; rw [f4] at hb; exact hb here
    by_cases jl : j = x.length + 9
    · subst jl
      rw [atl] at here
      have := form_last x []
      rw [List.append_nil] at this
      rw [this] at hb; exact hb here
    have sdata : ∀ i, i < x.length → S[9 + i]? = y[i]? := fun i hi => by rw [hs]; exact form_data y _ i (by omega)
    have shead : ∀ i, i < 4 → S[5 + i]? = (text32 (crc32 y))[i]? := fun i hi => by rw [hs]; exact form_head y _ i hi
    have fdata : ∀ i, i < x.length → (formJ x)[9 + i]? = x[i]? := fun i hi => by have := form_data x [] i hi; rwa [List.append_nil] at this
    have fhead : ∀ i, i < 4 → (formJ x)[5 + i]? = (text32 (crc32 x))[i]? := fun i hi => by have := form_head x [] i hi; rwa [List.append_nil] at this
    by_cases jh : j < 9
    · have hxy : y = x := by
        apply List.ext_getElem?
        intro i
        by_cases hi : i < x.length
        · rw [← sdata i hi, kept (9 + i) (by omega) (by omega), fdata i hi]
        · rw [List.getElem?_eq_none (by omega), List.getElem?_eq_none (by omega)]
      obtain ⟨i, rfl⟩ : ∃ i, j = 5 + i := ⟨j - 5, by omega⟩
      rw [shead i (by omega), hxy] at here
      rw [fhead i (by omega)] at hb
      exact hb here
    · obtain ⟨i, rfl⟩ : ∃ i, j = 9 + i := ⟨j - 9, by omega⟩
      have hi : i < x.length := by omega
      have hcrc : crc32 y = crc32 x := by
        apply text32_inj (crc32_lt y) (crc32_lt x)
        apply List.ext_getElem?
        intro k
        by_cases hk : k < 4
        · rw [← shead k hk, kept (5 + k) (by omega) (by omega), fhead k hk]
        · rw [List.getElem?_eq_none (by simp [text32]; omega), List.getElem?_eq_none (by simp [text32]; omega)]
      have hy : y = x.set i b := by
        apply List.ext_getElem?
        intro k
        by_cases hk : k < x.length
        · by_cases hki : k = i
          · subst hki
            rw [← sdata k hk, here, List.getElem?_set_self hk]
          · rw [← sdata k hk, kept (9 + k) (by omega) (by omega), fdata k hk, List.getElem?_set_ne (by omega)]
        · rw [List.getElem?_eq_none (by omega), List.getElem?_eq_none (by rw [List.length_set]; omega)]
      have ex : x = x.take i ++ x[i] :: x.drop (i + 1) := by rw [List.getElem_cons_drop, List.take_append_drop]
      have ey : y = x.take i ++ b :: x.drop (i + 1) := by rw [hy, List.set_eq_take_append_cons_drop, if_pos hi]
      rw [ey] at hcrc
      have hcrc2 : crc32 (x.take i ++ b :: x.drop (i + 1)) = crc32 (x.take i ++ x[i] :: x.drop (i + 1)) := by rw [← ex]; exact hcrc
      have := crc32_one _ _ _ _ hcrc2
      rw [fdata i hi, List.getElem?_eq_getElem hi, this] at hb
      exact hb rfl

/-- The records of bytes, their places, their end. -/
def recsJ (s : List UInt8) : List (List UInt8) := walkJ (s.length + 1) s
def offsJ : Nat → List (List UInt8) → List Nat
  | _, [] => []
  | a, x :: l => a :: offsJ (a + (x.length + 10)) l
theorem offsJ_length : ∀ (a : Nat) (l : List (List UInt8)), (offsJ a l).length = l.length
  | _, [] => rfl
  | a, x :: l => by unfold offsJ; rw [List.length_cons, offsJ_length, List.length_cons]
theorem sizeJ_cons (x : List UInt8) (l : List (List UInt8)) : sizeJ (x :: l) = x.length + 10 + sizeJ l := by unfold sizeJ; simp
theorem sizeJ_append (a b : List (List UInt8)) : sizeJ (a ++ b) = sizeJ a + sizeJ b := by unfold sizeJ; simp
theorem sizeJ_snoc (a : List (List UInt8)) (x : List UInt8) : sizeJ (a ++ [x]) = sizeJ a + (x.length + 10) := by rw [sizeJ_append]; unfold sizeJ; simp
theorem formsJ_length : ∀ (l : List (List UInt8)), (formsJ l).length = sizeJ l
  | [] => rfl
  | x :: l => by unfold formsJ; rw [List.flatMap_cons, List.length_append, formJ_length, sizeJ_cons]; have := formsJ_length l; unfold formsJ at this; rw [this]
theorem formsJ_append (a b : List (List UInt8)) : formsJ (a ++ b) = formsJ a ++ formsJ b := List.flatMap_append
theorem formsJ_snoc (a : List (List UInt8)) (x : List UInt8) : formsJ (a ++ [x]) = formsJ a ++ formJ x := by rw [formsJ_append]; simp
theorem size_ge (l : List (List UInt8)) : 10 * l.length ≤ sizeJ l := by
  induction l with
  | nil => exact Nat.zero_le _
  | cons x l ih => rw [sizeJ_cons, List.length_cons]; omega
theorem walk_prefix : ∀ (n : Nat) (s : List UInt8), ∃ t, s = formsJ (walkJ n s) ++ t ∧ (s.length < n → recJ t = none) ∧ (∀ x ∈ walkJ n s, 1 ≤ x.length ∧ x.length ≤ 60000)
  | 0, s => ⟨s, rfl, fun h => absurd h (Nat.not_lt_zero _), fun x hx => by cases hx⟩
  | n + 1, s => by
    unfold walkJ
    cases h : recJ s with
    | none => exact ⟨s, rfl, fun _ => h, fun x hx => by cases hx⟩
    | some x =>
      obtain ⟨hs, h1, h2⟩ := recJ_some h
      obtain ⟨t, ht, hn, hm⟩ := walk_prefix n (s.drop (x.length + 10))
      refine ⟨t, ?_, fun hl => hn ?_, fun y hy => ?_⟩
      · rw [formsJ, List.flatMap_cons, List.append_assoc]
        unfold formsJ at ht
        rw [← ht]; exact hs
      · have := congrArg List.length hs
        rw [List.length_append, formJ_length] at this
        rw [List.length_drop] at this ⊢
        omega
      · rcases List.mem_cons.1 hy with rfl | hy
        · exact ⟨h1, h2⟩
        · exact hm y hy
theorem recs_split (s : List UInt8) : ∃ t, s = formsJ (recsJ s) ++ t ∧ recJ t = none ∧ (∀ x ∈ recsJ s, 1 ≤ x.length ∧ x.length ≤ 60000) := by
  obtain ⟨t, h1, h2, h3⟩ := walk_prefix (s.length + 1) s
  exact ⟨t, h1, h2 (by omega), h3⟩
theorem recs_forms (l : List (List UInt8)) (t : List UInt8) (hl : ∀ x ∈ l, 1 ≤ x.length ∧ x.length ≤ 60000) (h : recJ t = none) : recsJ (formsJ l ++ t) = l := by
  unfold recsJ
  refine walk_forms l t _ hl ?_ h
  have := size_ge l
  rw [List.length_append, formsJ_length]; omega
theorem recs_size (s : List UInt8) : sizeJ (recsJ s) ≤ s.length := by
  obtain ⟨t, h, _, _⟩ := recs_split s
  have := congrArg List.length h
  rw [List.length_append, formsJ_length] at this
  omega
/-- All bytes are 0. -/
def blankJ (s : List UInt8) : Bool := s.all fun b => b == 0
theorem blank_zeros (n : Nat) : blankJ (List.replicate n 0) = true := by unfold blankJ; simp
end Go.Proofs.Journal12
/- Chapter 12, the plain law: what the functions on a device and a region answer. -/
namespace Go.Proofs.YtmfbkelhegdmpaaGreatDoor
open Go.RowKit Disk11 Journal12

abbrev Reg := Int × Int
def chkJ (d : Dev) (r : Reg) : Nat := if (chk d).1 ≠ 0 then (chk d).1 else if r.1 < 0 ∨ r.2 < 1 ∨ (d.1.length : Int) < r.1 ∨ (d.1.length : Int) - r.1 < r.2 then 2 else 0
def placedJ (d : Dev) (r : Reg) (p : Int) : Nat := if chkJ d r ≠ 0 then chkJ d r else if p < 0 ∨ 64 * r.2 < p then 2 else 0
def sizeF (x : List UInt8) : Nat × Nat := if x = [] then (0, 3) else if 60000 < x.length then (0, 4) else (x.length + 10, 0)
def regJ (d : Dev) (r : Reg) : List UInt8 := ((readAll d).drop (64 * r.1.toNat)).take (64 * r.2.toNat)
def appendJ (d : Dev) (r : Reg) (p : Int) (x : List UInt8) : Dev × Int × Nat :=
  if placedJ d r p ≠ 0 then (none0, 0, placedJ d r p) else if (sizeF x).2 ≠ 0 then (none0, 0, (sizeF x).2) else
  if 64 * r.2 - p < x.length + 10 then (none0, 0, 5) else if blankJ (((regJ d r).drop p.toNat).take (x.length + 10)) = false then (none0, 0, 12) else
  if (writeD d (64 * r.1 + p) (formJ x)).2 ≠ 0 then (none0, 0, (writeD d (64 * r.1 + p) (formJ x)).2) else ((writeD d (64 * r.1 + p) (formJ x)).1, p + (x.length + 10), 0)
def replayJ (d : Dev) (r : Reg) : List (List UInt8) × Nat × Nat := if chkJ d r ≠ 0 then ([], 0, chkJ d r) else (recsJ (regJ d r), sizeJ (recsJ (regJ d r)), 0)
def placesJ (d : Dev) (r : Reg) : List Nat × Nat := if chkJ d r ≠ 0 then ([], chkJ d r) else (offsJ 0 (recsJ (regJ d r)), 0)
def cleanJ (d : Dev) (r : Reg) (p : Int) : Bool × Nat := if placedJ d r p ≠ 0 then (false, placedJ d r p) else (blankJ ((regJ d r).drop p.toNat), 0)
def cutJ (d : Dev) (r : Reg) (p : Int) : Dev × Nat :=
  if placedJ d r p ≠ 0 then (none0, placedJ d r p) else if p = 64 * r.2 then (d, 0) else writeD d (64 * r.1 + p) (List.replicate (64 * r.2 - p).toNat 0)
def roomJ (r : Reg) (p : Int) : Int × Nat := if r.1 < 0 ∨ r.2 < 1 ∨ 4096 < r.2 ∨ p < 0 ∨ 64 * r.2 < p then (0, 2) else (max 0 (min 60000 (64 * r.2 - p - 10)), 0)

theorem chkJ_ok {d : Dev} {r : Reg} (h : chkJ d r = 0) : Disk11.Good d ∧ ∃ f b : Nat, r = ((f : Int), (b : Int)) ∧ 1 ≤ b ∧ f + b ≤ d.1.length := by
  unfold chkJ at h
  split at h
  · rename_i hc; exact absurd h hc
  · rename_i hc
    split at h
    · cases h
    · rename_i hr
      refine ⟨(chk_good d).1 (chk_ok (Decidable.not_not.1 hc)), r.1.toNat, r.2.toNat, ?_, by omega, by omega⟩
      have h1 : ((r.1.toNat : Nat) : Int) = r.1 := by omega
      have h2 : ((r.2.toNat : Nat) : Int) = r.2 := by omega
      rw [h1, h2]
theorem chkJ_zero {d : Dev} {f b : Nat} (h : Disk11.Good d) (hb : 1 ≤ b) (hf : f + b ≤ d.1.length) : chkJ d ((f : Int), (b : Int)) = 0 := by
  unfold chkJ
  rw [good_chk h, if_neg (by simp), if_neg]
  show ¬ ((f : Int) < 0 ∨ (b : Int) < 1 ∨ (d.1.length : Int) < f ∨ (d.1.length : Int) - f < b)
  omega
theorem placedJ_ok {d : Dev} {r : Reg} {p : Int} (h : placedJ d r p = 0) : Disk11.Good d ∧ ∃ f b q : Nat, r = ((f : Int), (b : Int)) ∧ p = (q : Int) ∧ 1 ≤ b ∧ f + b ≤ d.1.length ∧ q ≤ 64 * b := by
  unfold placedJ at h
  split at h
  · rename_i hc; exact absurd h hc
  · rename_i hc
    split at h
    · cases h
    · rename_i hr
      obtain ⟨hg, f, b, rfl, h1, h2⟩ := chkJ_ok (Decidable.not_not.1 hc)
      refine ⟨hg, f, b, p.toNat, rfl, by omega, h1, h2, ?_⟩
      have : ¬ (64 * (b : Int) < p) := fun hh => hr (.inr hh)
      omega
theorem placedJ_zero {d : Dev} {f b q : Nat} (h : Disk11.Good d) (hb : 1 ≤ b) (hf : f + b ≤ d.1.length) (hq : q ≤ 64 * b) : placedJ d ((f : Int), (b : Int)) q = 0 := by
  unfold placedJ
  rw [chkJ_zero h hb hf, if_neg (by simp), if_neg]
  show ¬ ((q : Int) < 0 ∨ 64 * (b : Int) < q)
  omega
theorem regJ_nat (d : Dev) (f b : Nat) : regJ d ((f : Int), (b : Int)) = ((readAll d).drop (64 * f)).take (64 * b) := rfl
theorem regJ_length {d : Dev} {f b : Nat} (h : Disk11.Good d) (hf : f + b ≤ d.1.length) : (regJ d ((f : Int), (b : Int))).length = 64 * b := by
  rw [regJ_nat, List.length_take, List.length_drop, readAll_length h]; omega
theorem regJ_read {d : Dev} {f b : Nat} (h : Disk11.Good d) (hf : f + b ≤ d.1.length) : readD d (64 * (f : Int)) (64 * (b : Int)) = (regJ d ((f : Int), (b : Int)), 0) := by
  unfold readD
  have hi : inside (Disk11.size d) (64 * (f : Int)) (64 * (b : Int)) = true := by rw [inside_iff]; unfold Disk11.size; omega
  rw [good_chk h, if_neg (by simp), hi, if_neg (by simp), regJ_nat]
  have e1 : (64 * (f : Int)).toNat = 64 * f := by omega
  have e2 : (64 * (b : Int)).toNat = 64 * b := by omega
  rw [e1, e2]

theorem layF_drop {L y : List UInt8} {q a : Nat} (h : q + a + y.length ≤ L.length) : (layF L (q + a) y).drop q = layF (L.drop q) a y := by
  unfold layF
  rw [List.append_assoc, List.append_assoc, List.drop_append_of_le_length (by rw [List.length_take]; omega), List.drop_take, show q + a - q = a by omega, List.drop_drop]
  congr 3; omega
theorem layF_take {L y : List UInt8} {a m : Nat} (h : a + y.length ≤ m) (hm : m ≤ L.length) : (layF L a y).take m = layF (L.take m) a y := by
  unfold layF
  have e1 : (L.take a).length = a := by rw [List.length_take]; omega
  rw [List.take_append, List.take_of_length_le (by rw [List.length_append, e1]; omega), List.length_append, e1, List.take_take, Nat.min_eq_left (by omega : a ≤ m)]
  congr 1
  rw [List.drop_take]
theorem layF_end (F y : List UInt8) (k : Nat) (h : y.length ≤ k) : layF (F ++ List.replicate k 0) F.length y = F ++ y ++ List.replicate (k - y.length) 0 := by
  unfold layF
  rw [List.take_left' rfl, List.drop_append, List.drop_of_length_le (by omega), List.nil_append, List.drop_replicate]
  congr 2; omega
theorem regJ_lay {d d' : Dev} {f b a : Nat} {y : List UInt8} (hl : (readAll d).length = 64 * d.1.length) (hf : f + b ≤ d.1.length) (ha : a + y.length ≤ 64 * b) (hd : readAll d' = layF (readAll d) (64 * f + a) y) :
    regJ d' ((f : Int), (b : Int)) = layF (regJ d ((f : Int), (b : Int))) a y := by
  rw [regJ_nat, regJ_nat, hd, layF_drop (by omega), layF_take ha (by rw [List.length_drop]; omega)]
/-- A record that fits into the blank end of a region. -/
theorem append_ok {d : Dev} {f b : Nat} {pre : List (List UInt8)} {k : Nat} {x : List UInt8} (hg : Disk11.Good d) (hb : 1 ≤ b) (hf : f + b ≤ d.1.length) (hc : d.2.length < 1000)
    (hr : regJ d ((f : Int), (b : Int)) = formsJ pre ++ List.replicate k 0) (h1 : 1 ≤ x.length) (h2 : x.length ≤ 60000) (hk : x.length + 10 ≤ k) :
    appendJ d ((f : Int), (b : Int)) (sizeJ pre) x = ((d.1, d.2 ++ [(((64 * f + sizeJ pre : Nat) : Int), formJ x)]), ((sizeJ (pre ++ [x]) : Nat) : Int), 0) ∧
      Disk11.Good (d.1, d.2 ++ [(((64 * f + sizeJ pre : Nat) : Int), formJ x)]) ∧
      regJ (d.1, d.2 ++ [(((64 * f + sizeJ pre : Nat) : Int), formJ x)]) ((f : Int), (b : Int)) = formsJ (pre ++ [x]) ++ List.replicate (k - (x.length + 10)) 0 := by
  have hl := regJ_length hg hf
  rw [hr, List.length_append, formsJ_length, List.length_replicate] at hl
  have hfl := formJ_length x
  have hne : formJ x ≠ [] := fun e => by rw [e] at hfl; simp at hfl
  have hx : x ≠ [] := fun e => by rw [e] at h1; simp at h1
  have hw := writeD_ok hg hc (64 * f + sizeJ pre) (formJ x) hne (by omega)
  have hgw := good_write hg hc (64 * f + sizeJ pre) (formJ x) hne (by omega)
  refine ⟨?_, hgw, ?_⟩
  · have e1 : 64 * (f : Int) + (sizeJ pre : Nat) = ((64 * f + sizeJ pre : Nat) : Int) := by omega
    have e2 : sizeF x = (x.length + 10, 0) := by unfold sizeF; rw [if_neg hx, if_neg (by omega)]
    have e3 : ((regJ d ((f : Int), (b : Int))).drop (sizeJ pre)).take (x.length + 10) = List.replicate (x.length + 10) 0 := by
      rw [hr, List.drop_left' (formsJ_length pre), List.take_replicate, Nat.min_eq_left hk]
    unfold appendJ
    rw [placedJ_zero hg hb hf (by omega), if_neg (by simp), e2, if_neg (by simp), if_neg (by show ¬ (64 * (b : Int) - _ < _); omega), Int.toNat_natCast, e3, blank_zeros, if_neg (by simp)]
    show (if (writeD d (64 * (f : Int) + (sizeJ pre : Nat)) (formJ x)).2 ≠ 0 then _ else ((writeD d (64 * (f : Int) + (sizeJ pre : Nat)) (formJ x)).1, _, _)) = _
    rw [e1, hw, if_neg (by simp), sizeJ_snoc]
    congr 2
  · rw [regJ_lay (readAll_length hg) hf (by omega : sizeJ pre + (formJ x).length ≤ 64 * b) (readAll_write d _ _), hr]
    have := layF_end (formsJ pre) (formJ x) k (by omega)
    rw [formsJ_length, hfl] at this
    rw [this, formsJ_snoc]
/-- The writes that records make that are appended one behind the other. -/
def wrsJ (f : Nat) : Nat → List (List UInt8) → List Wr
  | _, [] => []
  | a, x :: l => (((64 * f + a : Nat) : Int), formJ x) :: wrsJ f (a + (x.length + 10)) l
theorem wrsJ_cons (f a : Nat) (x : List UInt8) (l : List (List UInt8)) : wrsJ f a (x :: l) = (((64 * f + a : Nat) : Int), formJ x) :: wrsJ f (a + (x.length + 10)) l := rfl
theorem wrsJ_length (f : Nat) : ∀ (a : Nat) (l : List (List UInt8)), (wrsJ f a l).length = l.length
  | _, [] => rfl
  | a, x :: l => by unfold wrsJ; rw [List.length_cons, wrsJ_length f, List.length_cons]
theorem wrsJ_append (f : Nat) : ∀ (a : Nat) (l m : List (List UInt8)), wrsJ f a (l ++ m) = wrsJ f a l ++ wrsJ f (a + sizeJ l) m
  | a, [], m => rfl
  | a, x :: l, m => by
    rw [List.cons_append, wrsJ_cons, wrsJ_cons, wrsJ_append f, sizeJ_cons, Nat.add_assoc]; rfl
theorem wrsJ_take (f : Nat) : ∀ (a k : Nat) (l : List (List UInt8)), (wrsJ f a l).take k = wrsJ f a (l.take k)
  | a, 0, l => by simp [wrsJ]
  | a, k + 1, [] => by simp [wrsJ]
  | a, k + 1, x :: l => by rw [wrsJ_cons, List.take_succ_cons, wrsJ_take f, List.take_succ_cons, wrsJ_cons]
theorem wrsJ_get (f : Nat) : ∀ (a k : Nat) (l : List (List UInt8)) (h : k < l.length), (wrsJ f a l)[k]? = some (((64 * f + (a + sizeJ (l.take k)) : Nat) : Int), formJ l[k])
  | a, k, [], h => absurd h (by simp)
  | a, 0, x :: l, h => rfl
  | a, k + 1, x :: l, h => by
    unfold wrsJ
    rw [List.getElem?_cons_succ, wrsJ_get f _ k l (by simpa using h), List.take_succ_cons, sizeJ_cons]
    have e : a + (x.length + 10) + sizeJ (l.take k) = a + (x.length + 10 + sizeJ (l.take k)) := by omega
    rw [e]; rfl
def SmallJ (l : List (List UInt8)) : Prop := ∀ x ∈ l, 1 ≤ x.length ∧ x.length ≤ 60000
/-- A device on whose region just these records lie, behind them zeros. -/
def LaidJ (f b : Nat) (d : Dev) (pre : List (List UInt8)) : Prop :=
  Disk11.Good d ∧ 1 ≤ b ∧ f + b ≤ d.1.length ∧ sizeJ pre ≤ 64 * b ∧ regJ d ((f : Int), (b : Int)) = formsJ pre ++ List.replicate (64 * b - sizeJ pre) 0 ∧ SmallJ pre
def putJ (f : Nat) (d : Dev) (pre l : List (List UInt8)) : Dev := (d.1, d.2 ++ wrsJ f (sizeJ pre) l)
theorem putJ_nil (f : Nat) (d : Dev) (pre : List (List UInt8)) : putJ f d pre [] = d := by unfold putJ wrsJ; rw [List.append_nil]
theorem putJ_snoc (f : Nat) (d : Dev) (pre l : List (List UInt8)) (x : List UInt8) : putJ f d pre (l ++ [x]) = ((putJ f d pre l).1, (putJ f d pre l).2 ++ [(((64 * f + sizeJ (pre ++ l) : Nat) : Int), formJ x)]) := by
  unfold putJ
  rw [wrsJ_append, sizeJ_append]
  show _ = (d.1, d.2 ++ wrsJ f (sizeJ pre) l ++ _)
  rw [List.append_assoc]; rfl
theorem laid_step {f b : Nat} {d : Dev} {pre : List (List UInt8)} {x : List UInt8} (h : LaidJ f b d pre) (hc : d.2.length < 1000) (h1 : 1 ≤ x.length) (h2 : x.length ≤ 60000) (hs : sizeJ pre + (x.length + 10) ≤ 64 * b) :
    appendJ d ((f : Int), (b : Int)) (sizeJ pre) x = ((d.1, d.2 ++ [(((64 * f + sizeJ pre : Nat) : Int), formJ x)]), ((sizeJ (pre ++ [x]) : Nat) : Int), 0) ∧ LaidJ f b (d.1, d.2 ++ [(((64 * f + sizeJ pre : Nat) : Int), formJ x)]) (pre ++ [x]) := by
  obtain ⟨hg, hb, hf, hz, hr, hl⟩ := h
  obtain ⟨a1, a2, a3⟩ := append_ok hg hb hf hc hr h1 h2 (by omega)
  refine ⟨a1, a2, hb, hf, by rw [sizeJ_snoc]; exact hs, ?_, fun y hy => ?_⟩
  · rw [a3, sizeJ_snoc]; congr 2; omega
  · rcases List.mem_append.1 hy with h | h
    · exact hl y h
    · rw [List.mem_singleton.1 h]; exact ⟨h1, h2⟩
theorem putJ_cons (f : Nat) (d : Dev) (pre l : List (List UInt8)) (x : List UInt8) : putJ f d pre (x :: l) = putJ f (d.1, d.2 ++ [(((64 * f + sizeJ pre : Nat) : Int), formJ x)]) (pre ++ [x]) l := by
  unfold putJ
  rw [wrsJ_cons, sizeJ_snoc, List.append_assoc]; rfl
theorem laid_put {f b : Nat} : ∀ (l : List (List UInt8)) {d : Dev} {pre : List (List UInt8)}, LaidJ f b d pre → SmallJ l → sizeJ (pre ++ l) ≤ 64 * b → d.2.length + l.length ≤ 1000 → LaidJ f b (putJ f d pre l) (pre ++ l)
  | [], d, pre, h, _, _, _ => by rw [putJ_nil, List.append_nil]; exact h
  | x :: l, d, pre, h, hs, hz, hc => by
    obtain ⟨q1, q2⟩ := hs x List.mem_cons_self
    rw [sizeJ_append, sizeJ_cons] at hz
    rw [List.length_cons] at hc
    have h1 := (laid_step h (by omega) q1 q2 (by omega)).2
    have := laid_put l h1 (fun y hy => hs y (List.mem_cons_of_mem _ hy)) (by rw [sizeJ_append, sizeJ_snoc]; omega) (by simp; omega)
    rw [putJ_cons, show pre ++ x :: l = pre ++ [x] ++ l by simp]; exact this
theorem replicate_none (m : Nat) : recJ (List.replicate m 0) = none := by
  cases m with
  | zero => rfl
  | succ m => have := recJ_zeros m []; rwa [List.append_nil] at this
theorem replay_laid {f b : Nat} {d : Dev} {pre : List (List UInt8)} (h : LaidJ f b d pre) : replayJ d ((f : Int), (b : Int)) = (pre, sizeJ pre, 0) ∧ placesJ d ((f : Int), (b : Int)) = (offsJ 0 pre, 0) ∧ cleanJ d ((f : Int), (b : Int)) (sizeJ pre) = (true, 0) := by
  obtain ⟨hg, hb, hf, hz, hr, hl⟩ := h
  have hrec : recsJ (regJ d ((f : Int), (b : Int))) = pre := by rw [hr]; exact recs_forms pre _ hl (replicate_none _)
  refine ⟨?_, ?_, ?_⟩
  · unfold replayJ; rw [chkJ_zero hg hb hf, if_neg (by simp), hrec]
  · unfold placesJ; rw [chkJ_zero hg hb hf, if_neg (by simp), hrec]
  · unfold cleanJ
    rw [placedJ_zero hg hb hf hz, if_neg (by simp), Int.toNat_natCast, hr, List.drop_left' (formsJ_length pre), blank_zeros]
/-- Records, and behind them what is no record. -/
theorem replay_of {f b : Nat} {d : Dev} {pre : List (List UInt8)} {t : List UInt8} (hg : Disk11.Good d) (hb : 1 ≤ b) (hf : f + b ≤ d.1.length) (hl : SmallJ pre) (hr : regJ d ((f : Int), (b : Int)) = formsJ pre ++ t) (ht : recJ t = none) :
    replayJ d ((f : Int), (b : Int)) = (pre, sizeJ pre, 0) := by
  unfold replayJ; rw [chkJ_zero hg hb hf, if_neg (by simp), hr, recs_forms pre _ hl ht]
/-- A device that was synchronised. -/
theorem laid_sync {f b : Nat} {d : Dev} {pre : List (List UInt8)} (h : LaidJ f b d pre) : LaidJ f b (chunk (readAll d), []) pre := by
  obtain ⟨hg, hb, hf, hz, hr, hl⟩ := h
  have hrl := readAll_length hg
  have hlen : (chunk (readAll d)).length = d.1.length := chunk_len hrl
  refine ⟨good_chunk hrl hg.1 hg.2.1, hb, by show _ ≤ (chunk (readAll d)).length; rw [hlen]; exact hf, hz, ?_, hl⟩
  rw [regJ_nat, readAll_chunk hrl, ← regJ_nat]; exact hr
end Go.Proofs.YtmfbkelhegdmpaaGreatDoor
/- Chapter 12, the plain law: what a crash, a changed byte and a cut leave of the records of a region. -/
namespace Go.Proofs.YtmfbkelhegdmpaaGreatDoor
open Go.RowKit Disk11 Journal12

theorem layF_at (A y B : List UInt8) : layF (A ++ B) A.length y = A ++ (y ++ B.drop y.length) := by
  unfold layF
  rw [List.take_left' rfl, List.drop_append, List.drop_of_length_le (by omega), List.nil_append, show A.length + y.length - A.length = y.length by omega, List.append_assoc]
theorem sizeJ_take_le (l : List (List UInt8)) (k : Nat) : sizeJ (l.take k) ≤ sizeJ l := by
  have := sizeJ_append (l.take k) (l.drop k)
  rw [List.take_append_drop] at this
  omega
theorem sizeJ_take_succ (l : List (List UInt8)) (k : Nat) (h : k < l.length) : sizeJ (l.take (k + 1)) = sizeJ (l.take k) + (l[k].length + 10) := by
  rw [List.take_succ_eq_append_getElem h, sizeJ_snoc]
theorem smallJ_take {l : List (List UInt8)} (h : SmallJ l) (k : Nat) : SmallJ (l.take k) := fun x hx => h x (List.mem_of_mem_take hx)
theorem readK_put {f : Nat} {d : Dev} {old now : List (List UInt8)} (h0 : d.2 = []) (k : Nat) : readK (putJ f d old now) k = readAll (putJ f d old (now.take k)) := by
  unfold putJ readK readAll
  rw [h0]
  dsimp only
  rw [List.nil_append, List.nil_append, wrsJ_take]
theorem next_put {f : Nat} {d : Dev} {old now : List (List UInt8)} (h0 : d.2 = []) (k : Nat) (h : k < now.length) : nextD (putJ f d old now) k = (((64 * f + (sizeJ (old ++ now.take k)) : Nat) : Int), formJ now[k]) := by
  unfold nextD putJ
  rw [h0]
  dsimp only
  rw [List.nil_append, wrsJ_get f _ k now h, sizeJ_append]; rfl
theorem next_none {f : Nat} {d : Dev} {old now : List (List UInt8)} (h0 : d.2 = []) : nextD (putJ f d old now) now.length = (0, []) := by
  unfold nextD putJ
  rw [h0]
  dsimp only
  rw [List.nil_append, List.getElem?_eq_none (by rw [wrsJ_length]; exact Nat.le_refl _)]; rfl
theorem put_len (f : Nat) (d : Dev) (old now : List (List UInt8)) (h0 : d.2 = []) : (putJ f d old now).2.length = now.length := by
  unfold putJ; rw [h0]; dsimp only; rw [List.nil_append, wrsJ_length]
theorem regJ_dev {d d' : Dev} (r : Reg) (h : readAll d' = readAll d) : regJ d' r = regJ d r := by unfold regJ; rw [h]
/-- A crash behind all writes. -/
theorem crash_all {f b : Nat} {d : Dev} {old now : List (List UInt8)} (h : LaidJ f b d old) (h0 : d.2 = []) (hs : SmallJ now) (hz : sizeJ (old ++ now) ≤ 64 * b) (hc : now.length ≤ 1000) :
    ∃ C, crashD (putJ f d old now) (now.length : Nat) 0 = ((C, []), 0) ∧ C.length = d.1.length ∧ replayJ (C, []) ((f : Int), (b : Int)) = (old ++ now, sizeJ (old ++ now), 0) := by
  have hp := laid_put now h hs hz (by rw [h0]; simpa using hc)
  have hg := hp.1
  have hl := readAll_length hg
  have := crash_end hg
  rw [put_len f d old now h0] at this
  refine ⟨_, this, chunk_len hl, ?_⟩
  exact (replay_laid (laid_sync hp)).1
/-- A crash within a write: the form is whole, or torn. -/
theorem crash_mid {f b : Nat} {d : Dev} {old now : List (List UInt8)} (h : LaidJ f b d old) (h0 : d.2 = []) (hs : SmallJ now) (hz : sizeJ (old ++ now) ≤ 64 * b) (hc : now.length ≤ 1000) (k t : Nat) (hk : k < now.length) (ht : t ≤ now[k].length + 10) :
    ∃ C, crashD (putJ f d old now) (k : Nat) (t : Nat) = ((C, []), 0) ∧ C.length = d.1.length ∧
      (t < now[k].length + 10 → replayJ (C, []) ((f : Int), (b : Int)) = (old ++ now.take k, sizeJ (old ++ now.take k), 0)) ∧
      (t = now[k].length + 10 → replayJ (C, []) ((f : Int), (b : Int)) = (old ++ now.take k ++ [now[k]], sizeJ (old ++ now.take k ++ [now[k]]), 0)) := by
  have hp := laid_put now h hs hz (by rw [h0]; simpa using hc)
  have hz1 := sizeJ_take_le now (k + 1)
  rw [sizeJ_take_succ now k hk] at hz1
  have hz0 := hz
  rw [sizeJ_append] at hz0
  have hpk := laid_put (now.take k) h (smallJ_take hs k) (by rw [sizeJ_append]; omega) (by rw [h0, List.length_take]; simp; omega)
  have hg := hp.1
  have hgk := hpk.1
  have hn := next_put (f := f) (old := old) h0 k hk
  have hfl := formJ_length now[k]
  have hcr := crashD_ok hg k t (by rw [put_len f d old now h0]; omega) (by rw [hn]; show t ≤ (formJ now[k]).length; omega)
  rw [hn, readK_put h0] at hcr
  dsimp only at hcr
  rw [Int.toNat_natCast] at hcr
  have hl1 : (putJ f d old (now.take k)).1 = d.1 := rfl
  have hl := readAll_length hgk
  rw [hl1] at hl
  obtain ⟨g1, g2, g3, g4, g5, g6⟩ := hpk
  rw [hl1] at g3
  have htl : ((formJ now[k]).take t).length = t := by rw [List.length_take]; omega
  have hsz : sizeJ (old ++ now.take k) + t ≤ 64 * b := by rw [sizeJ_append]; omega
  obtain ⟨B, hB⟩ : ∃ B, B = layF (readAll (putJ f d old (now.take k))) (64 * f + sizeJ (old ++ now.take k)) ((formJ now[k]).take t) := ⟨_, rfl⟩
  have hBl : B.length = 64 * d.1.length := by rw [hB, layF_length (by omega), hl]
  rw [← hB] at hcr
  have hr : regJ (chunk B, []) ((f : Int), (b : Int)) = formsJ (old ++ now.take k) ++ ((formJ now[k]).take t ++ List.replicate (64 * b - sizeJ (old ++ now.take k) - t) 0) := by
    rw [regJ_lay (d := putJ f d old (now.take k)) (d' := (chunk B, [])) (by rw [hl1]; exact hl) (by rw [hl1]; exact g3) (by omega : sizeJ (old ++ now.take k) + ((formJ now[k]).take t).length ≤ 64 * b) (by rw [readAll_chunk hBl]; exact hB), g5]
    have := layF_end (formsJ (old ++ now.take k)) ((formJ now[k]).take t) (64 * b - sizeJ (old ++ now.take k)) (by omega)
    rw [formsJ_length, htl] at this
    rw [this, List.append_assoc]
  have hgC := good_chunk hBl h.1.1 h.1.2.1
  have hCl := chunk_len hBl
  obtain ⟨x1, x2⟩ := hs now[k] (List.getElem_mem hk)
  refine ⟨chunk B, hcr, hCl, fun h1 => ?_, fun h1 => ?_⟩
  · exact replay_of hgC g2 (by show _ ≤ (chunk B).length; omega) g6 hr (torn_none _ x2 t _ h1)
  · refine replay_of (t := List.replicate (64 * b - sizeJ (old ++ now.take k) - t) 0) hgC g2 (by show _ ≤ (chunk B).length; omega) (fun y hy => ?_) ?_ (replicate_none _)
    · rcases List.mem_append.1 hy with e | e
      · exact g6 y e
      · rw [List.mem_singleton.1 e]; exact ⟨x1, x2⟩
    · rw [hr, formsJ_snoc, List.take_of_length_le (i := t) (l := formJ now[k]) (by omega), List.append_assoc]
theorem regJ_one {d : Dev} {f b q : Nat} (h : Disk11.Good d) (hf : f + b ≤ d.1.length) (hq : q + 1 ≤ 64 * b) : readD d ((64 * f + q : Nat) : Int) 1 = (((regJ d ((f : Int), (b : Int))).drop q).take 1, 0) := by
  unfold readD
  have hi : inside (Disk11.size d) ((64 * f + q : Nat) : Int) 1 = true := by rw [inside_iff]; unfold Disk11.size; omega
  rw [good_chk h, if_neg (by simp), hi, if_neg (by simp), regJ_nat]
  rw [Int.toNat_natCast, List.drop_take, List.drop_drop, List.take_take, Nat.min_eq_left (by omega)]; rfl
/-- The byte of a region of laid records at a place, and the record that holds it. -/
theorem laid_byte {f b : Nat} {d : Dev} {l : List (List UInt8)} (h : LaidJ f b d l) (n j : Nat) (hn : n < l.length) (hj : j < l[n].length + 10) :
    ∃ c, readD d ((64 * f + (sizeJ (l.take n) + j) : Nat) : Int) 1 = ([c], 0) ∧ (formJ l[n])[j]? = some c := by
  obtain ⟨g1, g2, g3, g4, g5, g6⟩ := h
  have hz := sizeJ_take_le l (n + 1)
  rw [sizeJ_take_succ l n hn] at hz
  have hp := regJ_one g1 g3 (q := sizeJ (l.take n) + j) (by omega)
  have hfl := formJ_length l[n]
  have e : l = l.take n ++ (l[n] :: l.drop (n + 1)) := by rw [List.getElem_cons_drop, List.take_append_drop]
  have e2 : regJ d ((f : Int), (b : Int)) = formsJ (l.take n) ++ (formJ l[n] ++ (formsJ (l.drop (n + 1)) ++ List.replicate (64 * b - sizeJ l) 0)) := by
    rw [g5]
    conv => lhs; rw [show formsJ l = formsJ (l.take n ++ (l[n] :: l.drop (n + 1))) by rw [← e]]
    rw [formsJ_append]; unfold formsJ; rw [List.flatMap_cons]; simp only [List.append_assoc]
  have hd : ((regJ d ((f : Int), (b : Int))).drop (sizeJ (l.take n) + j)).take 1 = [(formJ l[n])[j]'(by omega)] := by
    rw [e2, ← List.drop_drop, List.drop_left' (formsJ_length _), List.drop_append_of_le_length (by omega), List.drop_eq_getElem_cons (by omega : j < (formJ l[n]).length)]; rfl
  rw [hd] at hp
  exact ⟨_, hp, List.getElem?_eq_getElem _⟩
theorem set_lay (A X B : List UInt8) (j : Nat) (c : UInt8) (h : j < X.length) : layF (A ++ (X ++ B)) (A.length + j) [c] = A ++ (X.set j c ++ B) := by
  have e : A ++ (X ++ B) = (A ++ X.take j) ++ (X.drop j ++ B) := by rw [List.append_assoc, ← List.append_assoc (X.take j), List.take_append_drop]
  have e1 : (A ++ X.take j).length = A.length + j := by rw [List.length_append, List.length_take]; omega
  rw [e, ← e1, layF_at _ _ _]
  rw [List.drop_append_of_le_length (by rw [List.length_drop]; show 1 ≤ _; omega), List.drop_drop, List.set_eq_take_append_cons_drop, if_pos h]
  simp
/-- One changed byte: just the records before it are replayed. -/
theorem spoilt_replay {f b : Nat} {d : Dev} {l : List (List UInt8)} (h : LaidJ f b d l) (hc : d.2.length < 1000) (n j : Nat) (c c' : UInt8) (hn : n < l.length) (hj : j < l[n].length + 10) (hcj : (formJ l[n])[j]? = some c) (hne : c ≠ c') :
    writeD d ((64 * f + (sizeJ (l.take n) + j) : Nat) : Int) [c'] = ((d.1, d.2 ++ [(((64 * f + (sizeJ (l.take n) + j) : Nat) : Int), [c'])]), 0) ∧
      replayJ (d.1, d.2 ++ [(((64 * f + (sizeJ (l.take n) + j) : Nat) : Int), [c'])]) ((f : Int), (b : Int)) = (l.take n, sizeJ (l.take n), 0) := by
  obtain ⟨g1, g2, g3, g4, g5, g6⟩ := h
  have hz := sizeJ_take_le l (n + 1)
  rw [sizeJ_take_succ l n hn] at hz
  have hfl := formJ_length l[n]
  have e : l = l.take n ++ (l[n] :: l.drop (n + 1)) := by rw [List.getElem_cons_drop, List.take_append_drop]
  have e2 : regJ d ((f : Int), (b : Int)) = formsJ (l.take n) ++ (formJ l[n] ++ (formsJ (l.drop (n + 1)) ++ List.replicate (64 * b - sizeJ l) 0)) := by
    rw [g5]
    conv => lhs; rw [show formsJ l = formsJ (l.take n ++ (l[n] :: l.drop (n + 1))) by rw [← e]]
    rw [formsJ_append]; unfold formsJ; rw [List.flatMap_cons]; simp only [List.append_assoc]
  have hw := writeD_ok g1 hc (64 * f + (sizeJ (l.take n) + j)) [c'] (by simp) (by show _ + 1 ≤ _; omega)
  have hgw := good_write g1 hc (64 * f + (sizeJ (l.take n) + j)) [c'] (by simp) (by show _ + 1 ≤ _; omega)
  refine ⟨hw, ?_⟩
  refine replay_of hgw g2 g3 (smallJ_take g6 n) (t := (formJ l[n]).set j c' ++ (formsJ (l.drop (n + 1)) ++ List.replicate (64 * b - sizeJ l) 0)) ?_ ?_
  · rw [regJ_lay (readAll_length g1) g3 (by show _ + 1 ≤ _; omega : sizeJ (l.take n) + j + [c'].length ≤ 64 * b) (readAll_write d _ _), e2]
    have := set_lay (formsJ (l.take n)) (formJ l[n]) (formsJ (l.drop (n + 1)) ++ List.replicate (64 * b - sizeJ l) 0) j c' (by omega)
    rw [formsJ_length] at this
    exact this
  · exact spoilt_none _ _ (g6 _ (List.getElem_mem hn)).2 j hj c' (by rw [hcj]; intro e; exact hne (Option.some.inj e))
/-- A cut at the place of a record: whole, or torn behind its first byte. -/
theorem cut_replay {f b : Nat} {d : Dev} {l : List (List UInt8)} (h : LaidJ f b d l) (h0 : d.2 = []) (n : Nat) (hn : n < l.length) :
    ∃ c : Dev, cutJ d ((f : Int), (b : Int)) (sizeJ (l.take n) : Nat) = (c, 0) ∧ c.1 = d.1 ∧ c.2 = [(((64 * f + sizeJ (l.take n) : Nat) : Int), List.replicate (64 * b - sizeJ (l.take n)) 0)] ∧
      LaidJ f b c (l.take n) ∧
      ∀ t : Nat, 1 ≤ t → t ≤ 64 * b - sizeJ (l.take n) → ∃ C, crashD c 0 (t : Nat) = ((C, []), 0) ∧ C.length = d.1.length ∧ replayJ (C, []) ((f : Int), (b : Int)) = (l.take n, sizeJ (l.take n), 0) := by
  obtain ⟨g1, g2, g3, g4, g5, g6⟩ := h
  have hz := sizeJ_take_le l (n + 1)
  rw [sizeJ_take_succ l n hn] at hz
  obtain ⟨a, ha⟩ : ∃ a, a = sizeJ (l.take n) := ⟨_, rfl⟩
  have ha2 : a + 10 ≤ 64 * b := by omega
  have hZ : (List.replicate (64 * b - a) (0 : UInt8)).length = 64 * b - a := List.length_replicate
  have hZn : List.replicate (64 * b - a) (0 : UInt8) ≠ [] := fun e => by rw [e] at hZ; simp at hZ; omega
  have hw := writeD_ok g1 (by rw [h0]; decide) (64 * f + a) (List.replicate (64 * b - a) 0) hZn (by omega)
  have hgw := good_write g1 (by rw [h0]; decide) (64 * f + a) (List.replicate (64 * b - a) 0) hZn (by omega)
  have e : l = l.take n ++ l.drop n := by rw [List.take_append_drop]
  have e2 : regJ d ((f : Int), (b : Int)) = formsJ (l.take n) ++ (formsJ (l.drop n) ++ List.replicate (64 * b - sizeJ l) 0) := by
    rw [g5]
    conv => lhs; rw [show formsJ l = formsJ (l.take n ++ l.drop n) by rw [← e]]
    rw [formsJ_append, List.append_assoc]
  have hrl := regJ_length g1 g3
  have hal : (formsJ (l.take n)).length = a := by rw [formsJ_length, ha]
  have hrest : (formsJ (l.drop n) ++ List.replicate (64 * b - sizeJ l) (0 : UInt8)).length = 64 * b - a := by
    rw [e2, List.length_append, hal] at hrl; omega
  have hcut : cutJ d ((f : Int), (b : Int)) (a : Nat) = ((d.1, d.2 ++ [(((64 * f + a : Nat) : Int), List.replicate (64 * b - a) 0)]), 0) := by
    unfold cutJ
    rw [placedJ_zero g1 g2 g3 (by omega), if_neg (by simp), if_neg (by show ¬ (a : Int) = 64 * (b : Int); omega)]
    have e1 : (64 * (b : Int) - (a : Int)).toNat = 64 * b - a := by omega
    have e3 : 64 * (f : Int) + (a : Int) = ((64 * f + a : Nat) : Int) := by omega
    rw [e1, e3]
    exact hw
  rw [← ha]
  refine ⟨_, hcut, rfl, by rw [h0]; rfl, ⟨hgw, g2, g3, by omega, ?_, smallJ_take g6 n⟩, fun t h1 h2 => ?_⟩
  · rw [regJ_lay (readAll_length g1) g3 (by omega : a + (List.replicate (64 * b - a) (0 : UInt8)).length ≤ 64 * b) (readAll_write d _ _), e2]
    have := layF_at (formsJ (l.take n)) (List.replicate (64 * b - a) 0) (formsJ (l.drop n) ++ List.replicate (64 * b - sizeJ l) 0)
    rw [hal] at this
    rw [this, List.drop_of_length_le (by omega), List.append_nil, ← ha]
  · have hnx : nextD (d.1, d.2 ++ [(((64 * f + a : Nat) : Int), List.replicate (64 * b - a) (0 : UInt8))]) 0 = (((64 * f + a : Nat) : Int), List.replicate (64 * b - a) 0) := by
      unfold nextD; rw [h0]; rfl
    have hcr := crashD_ok hgw 0 t (Nat.zero_le _) (by rw [hnx]; show t ≤ (List.replicate (64 * b - a) (0 : UInt8)).length; omega)
    have hr0 : readK (d.1, d.2 ++ [(((64 * f + a : Nat) : Int), List.replicate (64 * b - a) (0 : UInt8))]) 0 = readAll d := by
      unfold readK readAll; rw [h0]; rfl
    rw [hnx, hr0] at hcr
    dsimp only at hcr
    rw [Int.toNat_natCast, List.take_replicate, Nat.min_eq_left h2] at hcr
    have hl := readAll_length g1
    have htl : (List.replicate t (0 : UInt8)).length = t := List.length_replicate
    obtain ⟨B, hB⟩ : ∃ B, B = layF (readAll d) (64 * f + a) (List.replicate t 0) := ⟨_, rfl⟩
    have hBl : B.length = 64 * d.1.length := by rw [hB, layF_length (by omega), hl]
    rw [← hB] at hcr
    refine ⟨chunk B, hcr, chunk_len hBl, ?_⟩
    rw [ha]
    refine replay_of (good_chunk hBl g1.1 g1.2.1) g2 (by show _ ≤ (chunk B).length; rw [chunk_len hBl]; exact g3) (smallJ_take g6 n) (t := List.replicate t 0 ++ (formsJ (l.drop n) ++ List.replicate (64 * b - sizeJ l) 0).drop t) ?_ ?_
    · rw [regJ_lay hl g3 (by omega : a + (List.replicate t (0 : UInt8)).length ≤ 64 * b) (by rw [readAll_chunk hBl]; exact hB), e2]
      have := layF_at (formsJ (l.take n)) (List.replicate t 0) (formsJ (l.drop n) ++ List.replicate (64 * b - sizeJ l) 0)
      rw [hal, htl] at this
      exact this
    · obtain ⟨t', rfl⟩ : ∃ t', t = t' + 1 := ⟨t - 1, by omega⟩
      exact recJ_zeros t' _
end Go.Proofs.YtmfbkelhegdmpaaGreatDoor
/- Chapter 12, the plain law of the chapter's examples. -/
namespace Go.Proofs.YtmfbkelhegdmpaaGreatDoor
open Go.RowKit Disk11 Journal12

def zeroD (n : Nat) : Dev := (List.replicate n (List.replicate 64 0), [])
theorem zeroD_new (n : Nat) (h1 : 1 ≤ n) (h2 : n ≤ 4096) : newD n = (zeroD n, 0) := by
  unfold newD zeroD
  rw [if_neg (by omega), Int.toNat_natCast]
theorem zeroD_good (n : Nat) (h1 : 1 ≤ n) (h2 : n ≤ 4096) : Disk11.Good (zeroD n) := by
  refine ⟨by simp [zeroD]; exact h1, by simp [zeroD]; exact h2, fun b hb => ?_, by simp [zeroD], fun w hw => by simp [zeroD] at hw⟩
  rw [List.eq_of_mem_replicate hb, List.length_replicate]
theorem flatten_zero : ∀ (n : Nat), (List.replicate n (List.replicate 64 (0 : UInt8))).flatten = List.replicate (64 * n) 0
  | 0 => rfl
  | n + 1 => by rw [List.replicate_succ, List.flatten_cons, flatten_zero n, show 64 * (n + 1) = 64 + 64 * n by omega, List.replicate_append_replicate.symm]
theorem zeroD_all (n : Nat) : readAll (zeroD n) = List.replicate (64 * n) 0 := flatten_zero n
theorem zeroD_laid (n f b : Nat) (h1 : 1 ≤ n) (h2 : n ≤ 4096) (hb : 1 ≤ b) (hf : f + b ≤ n) : LaidJ f b (zeroD n) [] := by
  refine ⟨zeroD_good n h1 h2, hb, by simp [zeroD]; exact hf, Nat.zero_le _, ?_, fun x hx => by simp at hx⟩
  rw [regJ_nat, zeroD_all, List.drop_replicate, List.take_replicate, Nat.min_eq_left (by omega)]
  rfl
def helloB : List UInt8 := [104, 101, 108, 108, 111]
def xB : List UInt8 := [120]
def oneD : Dev := ((zeroD 3).1, [(64, formJ helloB)])
def shownD : Dev := ((zeroD 3).1, [(64, formJ helloB), (79, formJ xB)])
theorem step1 : appendJ (zeroD 3) (1, 2) 0 helloB = (oneD, 15, 0) ∧ LaidJ 1 2 oneD [helloB] :=
  laid_step (zeroD_laid 3 1 2 (by decide) (by decide) (by decide) (by decide)) (by decide) (by decide) (by decide) (by decide)
theorem step2 : appendJ oneD (1, 2) 15 xB = (shownD, 26, 0) ∧ LaidJ 1 2 shownD [helloB, xB] :=
  laid_step step1.2 (by decide) (by decide) (by decide) (by decide)
theorem shown_replay : replayJ shownD (1, 2) = ([helloB, xB], 26, 0) := (replay_laid step2.2).1
theorem shown_places : placesJ shownD (1, 2) = ([0, 15], 0) := (replay_laid step2.2).2.1
theorem shown_clean : cleanJ shownD (1, 2) 26 = (true, 0) := (replay_laid step2.2).2.2
theorem shown_chk : chkJ shownD (1, 2) = 0 := chkJ_zero step2.2.1 (by decide) (by decide)
theorem shown_room : roomJ (1, 2) 0 = (118, 0) := by decide
theorem room118 : roomJ (1, 2) 118 = (0, 0) := by decide
theorem room119 : roomJ (1, 2) 119 = (0, 0) := by decide
theorem size_hello : sizeF helloB = (15, 0) := by decide
theorem shown_placed (q : Nat) (hq : q ≤ 128) (z : Int) (hz : (q : Int) = z) : placedJ shownD (1, 2) z = 0 := by
  subst hz
  exact placedJ_zero step2.2.1 (f := 1) (b := 2) (by decide) (by decide) hq
theorem shown_reg : regJ shownD (1, 2) = formsJ [helloB, xB] ++ List.replicate 102 0 := step2.2.2.2.2.2.1
theorem shown_clean25 : cleanJ shownD (1, 2) 25 = (false, 0) := by
  unfold cleanJ
  rw [shown_placed 25 (by decide) (25 : Int) rfl, if_neg (by simp)]
  rw [shown_reg]
  decide +kernel
theorem shown_app5 : appendJ shownD (1, 2) 5 xB = (none0, 0, 12) := by
  unfold appendJ
  rw [shown_placed 5 (by decide) (5 : Int) rfl, if_neg (by simp), show sizeF xB = (11, 0) from rfl, if_neg (by simp), if_neg (by decide), if_pos]
  rw [shown_reg]
  decide +kernel
theorem shown_app118 : appendJ shownD (1, 2) 118 xB = (none0, 0, 5) := by
  unfold appendJ
  rw [shown_placed 118 (by decide) (118 : Int) rfl, if_neg (by simp), show sizeF xB = (11, 0) from rfl, if_neg (by simp), if_pos (by decide)]
theorem shown_app117 : appendJ shownD (1, 2) 117 xB = ((shownD.1, shownD.2 ++ [(181, formJ xB)]), 128, 0) := by
  have h := step2.2
  have hw := writeD_ok h.1 (by decide) 181 (formJ xB) (by decide) (by decide)
  unfold appendJ
  rw [shown_placed 117 (by decide) (117 : Int) rfl, if_neg (by simp), show sizeF xB = (11, 0) from rfl, if_neg (by simp), if_neg (by decide), if_neg]
  · show (if (writeD shownD ((181 : Nat) : Int) (formJ xB)).2 ≠ 0 then _ else ((writeD shownD ((181 : Nat) : Int) (formJ xB)).1, _, _)) = _
    rw [hw]; rfl
  · rw [shown_reg]
    decide +kernel
theorem shown_app26 : appendJ shownD (1, 2) 26 [] = (none0, 0, 3) := by
  unfold appendJ
  rw [shown_placed 26 (by decide) (26 : Int) rfl, if_neg (by simp), show sizeF [] = (0, 3) from rfl, if_pos (by decide)]
theorem shown_chk22 : chkJ shownD (2, 2) = 2 := by
  unfold chkJ
  rw [good_chk step2.2.1, if_neg (by simp), if_pos (by decide)]
theorem shown_chk20 : chkJ shownD (2, 0) = 2 := by
  unfold chkJ
  rw [good_chk step2.2.1, if_neg (by simp), if_pos (by decide)]
/-- A cut at the place of a record. -/
theorem cut_laid {f b : Nat} {d : Dev} {l : List (List UInt8)} (h : LaidJ f b d l) (h0 : d.2.length < 1000) (n : Nat) (hn : n < l.length) :
    cutJ d ((f : Int), (b : Int)) (sizeJ (l.take n) : Nat) = ((d.1, d.2 ++ [(((64 * f + sizeJ (l.take n) : Nat) : Int), List.replicate (64 * b - sizeJ (l.take n)) 0)]), 0) ∧
      LaidJ f b (d.1, d.2 ++ [(((64 * f + sizeJ (l.take n) : Nat) : Int), List.replicate (64 * b - sizeJ (l.take n)) 0)]) (l.take n) := by
  obtain ⟨g1, g2, g3, g4, g5, g6⟩ := h
  have hz := sizeJ_take_le l (n + 1)
  rw [sizeJ_take_succ l n hn] at hz
  obtain ⟨a, ha⟩ : ∃ a, a = sizeJ (l.take n) := ⟨_, rfl⟩
  have ha2 : a + 10 ≤ 64 * b := by omega
  have hZ : (List.replicate (64 * b - a) (0 : UInt8)).length = 64 * b - a := List.length_replicate
  have hZn : List.replicate (64 * b - a) (0 : UInt8) ≠ [] := fun e => by rw [e] at hZ; simp at hZ; omega
  have hw := writeD_ok g1 h0 (64 * f + a) (List.replicate (64 * b - a) 0) hZn (by omega)
  have hgw := good_write g1 h0 (64 * f + a) (List.replicate (64 * b - a) 0) hZn (by omega)
  have e : l = l.take n ++ l.drop n := by rw [List.take_append_drop]
  have e2 : regJ d ((f : Int), (b : Int)) = formsJ (l.take n) ++ (formsJ (l.drop n) ++ List.replicate (64 * b - sizeJ l) 0) := by
    rw [g5]
    conv => lhs; rw [show formsJ l = formsJ (l.take n ++ l.drop n) by rw [← e]]
    rw [formsJ_append, List.append_assoc]
  have hrl := regJ_length g1 g3
  have hal : (formsJ (l.take n)).length = a := by rw [formsJ_length, ha]
  have hrest : (formsJ (l.drop n) ++ List.replicate (64 * b - sizeJ l) (0 : UInt8)).length = 64 * b - a := by
    rw [e2, List.length_append, hal] at hrl; omega
  rw [← ha]
  refine ⟨?_, hgw, g2, g3, by omega, ?_, smallJ_take g6 n⟩
  · unfold cutJ
    rw [placedJ_zero g1 g2 g3 (by omega), if_neg (by simp), if_neg (by show ¬ (a : Int) = 64 * (b : Int); omega)]
    have e1 : (64 * (b : Int) - (a : Int)).toNat = 64 * b - a := by omega
    have e3 : 64 * (f : Int) + (a : Int) = ((64 * f + a : Nat) : Int) := by omega
    rw [e1, e3]
    exact hw
  · rw [regJ_lay (readAll_length g1) g3 (by omega : a + (List.replicate (64 * b - a) (0 : UInt8)).length ≤ 64 * b) (readAll_write d _ _), e2]
    have := layF_at (formsJ (l.take n)) (List.replicate (64 * b - a) 0) (formsJ (l.drop n) ++ List.replicate (64 * b - sizeJ l) 0)
    rw [hal] at this
    rw [this, List.drop_of_length_le (by omega), List.append_nil, ← ha]
def cutD : Dev := (shownD.1, shownD.2 ++ [(79, List.replicate 113 0)])
theorem shown_cut : cutJ shownD (1, 2) 15 = (cutD, 0) := (cut_laid step2.2 (by decide) 1 (by decide)).1
theorem cut_replay15 : replayJ cutD (1, 2) = ([helloB], 15, 0) := (replay_laid (cut_laid step2.2 (by decide) 1 (by decide)).2).1
end Go.Proofs.YtmfbkelhegdmpaaGreatDoor
