/- Texts of small laws, one behind the other. -/
import Derived.Test.YtmfbkelhegdmpaaGreatDoorJPlain
/- Chapter 13, the plain law: the form of a snapshot, what a slot has, the records of a generation. -/
namespace Go.Proofs.YtmfbkelhegdmpaaGreatDoor
open Go.RowKit Disk11 Journal12 Sum2

/-- A number as so many bytes, the greatest first. -/
def beS : Nat → Nat → List UInt8
  | 0, _ => []
  | k + 1, n => beS k (n / 256) ++ [UInt8.ofNat n]
/-- The number that bytes are. -/
def numS (l : List UInt8) : Nat := l.foldl (fun n b => n * 256 + b.toNat) 0
theorem numS_snoc (l : List UInt8) (b : UInt8) : numS (l ++ [b]) = numS l * 256 + b.toNat := by unfold numS; rw [List.foldl_append]; rfl
theorem beS_length : ∀ k n, (beS k n).length = k
  | 0, _ => rfl
  | k + 1, n => by unfold beS; rw [List.length_append, beS_length k]; rfl
theorem num_be : ∀ k n, n < 256 ^ k → numS (beS k n) = n
  | 0, n, h => by
    have : n = 0 := by simpa using h
    subst this; rfl
  | k + 1, n, h => by
    have h1 : n / 256 < 256 ^ k := Nat.div_lt_of_lt_mul (by rw [Nat.mul_comm, ← Nat.pow_succ]; exact h)
    unfold beS
    rw [numS_snoc, num_be k _ h1, UInt8.toNat_ofNat']
    omega
/-- The form of a snapshot. -/
def formS (g : Nat) (x : List UInt8) : List UInt8 := seal32 (beS 8 g ++ (beS 4 x.length ++ x))
theorem formS_length (g : Nat) (x : List UInt8) : (formS g x).length = x.length + 16 := by
  unfold formS seal32 text32
  simp only [List.length_append, beS_length, List.length_cons, List.length_nil]
  omega
/-- What a slot has: the generation and the data of its snapshot; 0 if it has none. -/
def lookS (s : List UInt8) (which : Nat) : Nat × List UInt8 :=
  if s[0]? ≠ some 183 then (0, []) else
  if numS ((s.drop 1).take 8) < 1 ∨ 1099511627776 < numS ((s.drop 1).take 8) ∨ numS ((s.drop 1).take 8) % 2 ≠ which ∨ s.length < numS ((s.drop 9).take 4) + 17 then (0, []) else
  if formS (numS ((s.drop 1).take 8)) ((s.drop 13).take (numS ((s.drop 9).take 4))) ≠ (s.drop 1).take (16 + numS ((s.drop 9).take 4)) then (0, []) else
  (numS ((s.drop 1).take 8), (s.drop 13).take (numS ((s.drop 9).take 4)))
theorem look_none (s : List UInt8) (which : Nat) (h : s[0]? ≠ some 183) : lookS s which = (0, []) := by unfold lookS; rw [if_pos h]
theorem look_form (g : Nat) (x t : List UInt8) (h1 : 1 ≤ g) (h2 : g ≤ 1099511627776) (hx : x.length < 4294967296) : lookS (183 :: (formS g x ++ t)) (g % 2) = (g, x) := by
  have e1 : ((183 :: (formS g x ++ t)).drop 1).take 8 = beS 8 g := by
    rw [List.drop_succ_cons, List.drop_zero]
    unfold formS seal32
    rw [List.append_assoc, List.append_assoc, List.take_left' (beS_length 8 g)]
  have e2 : (183 :: (formS g x ++ t)).drop 9 = beS 4 x.length ++ (x ++ (text32 (crc32 (beS 8 g ++ (beS 4 x.length ++ x))) ++ t)) := by
    rw [List.drop_succ_cons]
    unfold formS seal32
    rw [List.append_assoc, List.append_assoc, List.drop_left' (beS_length 8 g), List.append_assoc]
  have e3 : ((183 :: (formS g x ++ t)).drop 9).take 4 = beS 4 x.length := by rw [e2, List.take_left' (beS_length 4 _)]
  have e4 : ((183 :: (formS g x ++ t)).drop 13).take x.length = x := by
    rw [show 13 = 9 + 4 from rfl, ← List.drop_drop, e2, List.drop_left' (beS_length 4 _), List.take_left' rfl]
  have n1 : numS (beS 8 g) = g := num_be 8 g (by omega)
  have n2 : numS (beS 4 x.length) = x.length := num_be 4 _ (by omega)
  unfold lookS
  rw [if_neg (by simp), e1, e3, n1, n2, e4, if_neg, if_neg]
  · rw [List.drop_succ_cons, List.drop_zero, List.take_left' (by rw [formS_length]; omega)]; simp
  · rw [List.length_cons, List.length_append, formS_length]; omega
/-- The form of a number, in groups of seven bits. -/
def hiN (n : Nat) : List UInt8 := if _h : n = 0 then [] else hiN (n / 128) ++ [UInt8.ofNat (128 + n % 128)]
termination_by n
decreasing_by omega
def putN (n : Nat) : List UInt8 := hiN (n / 128) ++ [UInt8.ofNat (n % 128)]
theorem hiN_zero : hiN 0 = [] := by rw [hiN]; rfl
theorem hiN_pos (n : Nat) (h : n ≠ 0) : hiN n = hiN (n / 128) ++ [UInt8.ofNat (128 + n % 128)] := by rw [hiN]; rw [dif_neg h]
theorem hiN_length : ∀ (k n : Nat), n < 128 ^ k → (hiN n).length ≤ k
  | 0, n, h => by
    have : n = 0 := by simpa using h
    subst this; rw [hiN_zero]; exact Nat.le_refl _
  | k + 1, n, h => by
    by_cases h0 : n = 0
    · subst h0; rw [hiN_zero]; exact Nat.zero_le _
    · have h1 : n / 128 < 128 ^ k := Nat.div_lt_of_lt_mul (by rw [Nat.mul_comm, ← Nat.pow_succ]; exact h)
      rw [hiN_pos n h0, List.length_append]
      have := hiN_length k _ h1
      simp; omega
theorem putN_length (n : Nat) (h : n ≤ 1099511627776) : 1 ≤ (putN n).length ∧ (putN n).length ≤ 6 := by
  unfold putN
  rw [List.length_append]
  have := hiN_length 5 (n / 128) (by omega)
  simp; omega
theorem putN_low (n : Nat) (h : n < 128) : putN n = [UInt8.ofNat n] := by
  unfold putN
  rw [show n / 128 = 0 by omega, hiN_zero, Nat.mod_eq_of_lt h]; rfl
/-- The records of a generation, without its form, as long as they begin with it. -/
def ownS (h : List UInt8) : List (List UInt8) → List (List UInt8)
  | [] => []
  | x :: l => if x.take h.length = h then x.drop h.length :: ownS h l else []
abbrev withS (h : List UInt8) (l : List (List UInt8)) : List (List UInt8) := l.map (h ++ ·)
theorem own_with (h : List UInt8) : ∀ l, ownS h (withS h l) = l
  | [] => rfl
  | x :: l => by
    have := own_with h l
    unfold withS at this
    unfold withS
    rw [List.map_cons, ownS, List.take_left' rfl, if_pos rfl, List.drop_left' rfl, this]
theorem own_take (h : List UInt8) : ∀ l, l.take (ownS h l).length = withS h (ownS h l)
  | [] => rfl
  | x :: l => by
    unfold ownS
    by_cases hx : x.take h.length = h
    · rw [if_pos hx, List.length_cons, List.take_succ_cons, own_take h l]
      unfold withS
      rw [List.map_cons]
      congr 1
      conv => rhs; rw [← hx]
      rw [show (x.take h.length).length = h.length by rw [hx], List.take_append_drop]
    · rw [if_neg hx]; rfl
theorem own_length (h : List UInt8) (l : List (List UInt8)) : (ownS h l).length ≤ l.length := by
  have := congrArg List.length (own_take h l)
  unfold withS at this
  rw [List.length_take, List.length_map] at this
  omega
theorem own_other (h x : List UInt8) (l : List (List UInt8)) (hx : x.take h.length ≠ h) : ownS h (x :: l) = [] := by unfold ownS; rw [if_neg hx]

/-- What the functions on a device answer. -/
abbrev LogS := Nat × Int
def slotN (b : Nat) : Nat := 64 * (b / 4)
def slotS (d : Dev) (i : Nat) : List UInt8 := ((readAll d).drop (slotN d.1.length * i)).take (slotN d.1.length)
def regS (b : Nat) : Reg := (((2 * (b / 4) : Nat) : Int), ((b - 2 * (b / 4) : Nat) : Int))
def capS (b : Int) : Int × Nat := if b < 8 ∨ 4096 < b then (0, 2) else (64 * (b / 4) - 17, 0)
def checkS (d : Dev) (l : LogS) : Nat := if (chk d).1 ≠ 0 then (chk d).1 else if d.1.length < 8 ∨ l.1 < 1 ∨ 1099511627776 < l.1 ∨ l.2 < 0 ∨ 64 * (regS d.1.length).2 < l.2 then 2 else 0
def formatS (b : Int) (x : List UInt8) : Dev × LogS × Nat :=
  if (capS b).2 ≠ 0 then (none0, (0, 0), (capS b).2) else if (capS b).1 < x.length then (none0, (0, 0), 4) else
  ((syncD (writeD (newD b).1 (64 * (b / 4)) (183 :: formS 1 x)).1).1, (1, 0), 0)
def appendS (d : Dev) (l : LogS) (x : List UInt8) : Dev × LogS × Nat :=
  if checkS d l ≠ 0 then (none0, (0, 0), checkS d l) else
  if (appendJ d (regS d.1.length) l.2 (putN l.1 ++ x)).2.2 ≠ 0 then (none0, (0, 0), (appendJ d (regS d.1.length) l.2 (putN l.1 ++ x)).2.2) else
  ((appendJ d (regS d.1.length) l.2 (putN l.1 ++ x)).1, (l.1, (appendJ d (regS d.1.length) l.2 (putN l.1 ++ x)).2.1), 0)
def placeS (b g : Nat) : Nat := slotN b * (g % 2)
/-- The three writes of a snapshot and the cut of the log. -/
def comp1 (d : Dev) (g : Nat) : Dev × Nat := writeD d (placeS d.1.length g : Nat) [0]
def comp2 (d : Dev) (b g : Nat) (x : List UInt8) : Dev × Nat := writeD d ((placeS b g + 1 : Nat) : Int) (formS g x)
def comp3 (d : Dev) (b g : Nat) : Dev × Nat := writeD d (placeS b g : Nat) [183]
def compactS (d : Dev) (l : LogS) (x : List UInt8) : Dev × LogS × Nat :=
  if checkS d l ≠ 0 then (none0, (0, 0), checkS d l) else if l.1 = 1099511627776 then (none0, (0, 0), 2) else
  if (capS d.1.length).1 < x.length then (none0, (0, 0), 4) else
  if (comp1 d (l.1 + 1)).2 ≠ 0 then (none0, (0, 0), (comp1 d (l.1 + 1)).2) else
  if (comp2 (comp1 d (l.1 + 1)).1 d.1.length (l.1 + 1) x).2 ≠ 0 then (none0, (0, 0), (comp2 (comp1 d (l.1 + 1)).1 d.1.length (l.1 + 1) x).2) else
  if (comp3 (comp2 (comp1 d (l.1 + 1)).1 d.1.length (l.1 + 1) x).1 d.1.length (l.1 + 1)).2 ≠ 0 then (none0, (0, 0), (comp3 (comp2 (comp1 d (l.1 + 1)).1 d.1.length (l.1 + 1) x).1 d.1.length (l.1 + 1)).2) else
  if (cutJ (comp3 (comp2 (comp1 d (l.1 + 1)).1 d.1.length (l.1 + 1) x).1 d.1.length (l.1 + 1)).1 (regS d.1.length) 0).2 ≠ 0 then (none0, (0, 0), (cutJ (comp3 (comp2 (comp1 d (l.1 + 1)).1 d.1.length (l.1 + 1) x).1 d.1.length (l.1 + 1)).1 (regS d.1.length) 0).2) else
  ((cutJ (comp3 (comp2 (comp1 d (l.1 + 1)).1 d.1.length (l.1 + 1) x).1 d.1.length (l.1 + 1)).1 (regS d.1.length) 0).1, (l.1 + 1, 0), 0)
def bestS (d : Dev) : Nat × List UInt8 := if (lookS (slotS d 0) 0).1 < (lookS (slotS d 1) 1).1 then lookS (slotS d 1) 1 else lookS (slotS d 0) 0
def recsS (d : Dev) : List (List UInt8) := ownS (putN (bestS d).1) (recsJ (regJ d (regS d.1.length)))
def endS (d : Dev) : Nat := sizeJ (withS (putN (bestS d).1) (recsS d))
def doneS (d : Dev) : Dev := if (cleanJ d (regS d.1.length) (endS d)).1 = true then d else (cutJ d (regS d.1.length) (endS d)).1
def recoverS (d : Dev) : Dev × List UInt8 × List (List UInt8) × LogS × Nat :=
  if (chk d).1 ≠ 0 then (none0, [], [], (0, 0), (chk d).1) else if d.1.length < 8 then (none0, [], [], (0, 0), 2) else if d.2 ≠ [] then (none0, [], [], (0, 0), 12) else
  if (bestS d).1 = 0 then (none0, [], [], (0, 0), 10) else (doneS d, (bestS d).2, recsS d, ((bestS d).1, (endS d : Int)), 0)
def roomS (d : Dev) (l : LogS) : Int × Nat := if checkS d l ≠ 0 then (0, checkS d l) else (max (-1) ((roomJ (regS d.1.length) l.2).1 - ((putN l.1).length : Int)), 0)
end Go.Proofs.YtmfbkelhegdmpaaGreatDoor
/- Chapter 13, the plain law: devices on which a snapshot and records lie; what is recovered from them. -/
namespace Go.Proofs.YtmfbkelhegdmpaaGreatDoor
open Go.RowKit Disk11 Journal12 Sum2

def slotB (B : List UInt8) (s i : Nat) : List UInt8 := (B.drop (s * i)).take s
theorem slotS_eq (d : Dev) (i : Nat) : slotS d i = slotB (readAll d) (slotN d.1.length) i := rfl
theorem slotB_lay {B y : List UInt8} {s i p : Nat} (h : p + y.length ≤ B.length) (ho : s * i + s ≤ p ∨ p + y.length ≤ s * i) : slotB (layF B p y) s i = slotB B s i := by
  unfold slotB
  refine List.ext_getElem? fun j => ?_
  by_cases hj : j < s
  · rw [List.getElem?_take_of_lt hj, List.getElem?_take_of_lt hj, List.getElem?_drop, List.getElem?_drop, layF_get h, if_neg (by omega)]
  · rw [List.getElem?_eq_none (by rw [List.length_take]; omega), List.getElem?_eq_none (by rw [List.length_take]; omega)]
theorem slotB_in {B y : List UInt8} {s i q : Nat} (h : s * i + s ≤ B.length) (hq : q + y.length ≤ s) : slotB (layF B (s * i + q) y) s i = layF (slotB B s i) q y := by
  unfold slotB
  rw [layF_drop (by omega), layF_take hq (by rw [List.length_drop]; omega)]
theorem drop_lay {B y : List UInt8} {p q : Nat} (h : p + y.length ≤ B.length) (ho : p + y.length ≤ q) : (layF B p y).drop q = B.drop q := by
  refine List.ext_getElem? fun j => ?_
  rw [List.getElem?_drop, List.getElem?_drop, layF_get h, if_neg (by omega)]
/-- The slots of bytes: the snapshot of a generation, in the other slot none of a greater one. -/
def HasS (B : List UInt8) (s g : Nat) (x : List UInt8) : Prop :=
  lookS (slotB B s (g % 2)) (g % 2) = (g, x) ∧ (lookS (slotB B s ((g + 1) % 2)) ((g + 1) % 2)).1 < g
theorem best_of {d : Dev} {g : Nat} {x : List UInt8} (h : HasS (readAll d) (slotN d.1.length) g x) : bestS d = (g, x) := by
  obtain ⟨h1, h2⟩ := h
  unfold bestS
  rw [slotS_eq, slotS_eq]
  by_cases hg : g % 2 = 0
  · rw [hg] at h1
    rw [show (g + 1) % 2 = 1 by omega] at h2
    rw [if_neg (by rw [h1]; show ¬ g < _; omega), h1]
  · rw [show g % 2 = 1 by omega] at h1
    rw [show (g + 1) % 2 = 0 by omega] at h2
    rw [if_pos (by rw [h1]; exact h2), h1]
/-- A device with a snapshot, and with just these records behind it. -/
def LaidS (b : Nat) (d : Dev) (g : Nat) (x : List UInt8) (l : List (List UInt8)) : Prop :=
  8 ≤ b ∧ d.1.length = b ∧ 1 ≤ g ∧ g ≤ 1099511627776 ∧ HasS (readAll d) (slotN b) g x ∧ LaidJ (2 * (b / 4)) (b - 2 * (b / 4)) d (withS (putN g) l)
theorem LaidS.good {b : Nat} {d : Dev} {g : Nat} {x : List UInt8} {l : List (List UInt8)} (h : LaidS b d g x l) : Disk11.Good d := h.2.2.2.2.2.1
theorem regS_eq (b : Nat) : regS b = (((2 * (b / 4) : Nat) : Int), ((b - 2 * (b / 4) : Nat) : Int)) := rfl
theorem slotN_two (b : Nat) : 64 * (2 * (b / 4)) = 2 * slotN b := by unfold slotN; omega
/-- What is recovered from a device whose records are followed by anything. -/
theorem recover_any {b g : Nat} {d : Dev} {x t : List UInt8} {l : List (List UInt8)} (h8 : 8 ≤ b) (hb : d.1.length = b) (hg : Disk11.Good d) (hc : d.2 = []) (h1 : 1 ≤ g) (h2 : g ≤ 1099511627776) (hs : HasS (readAll d) (slotN b) g x)
    (hr : regJ d (regS b) = formsJ (withS (putN g) l) ++ t) (ho : ownS (putN g) (recsJ (regJ d (regS b))) = l) (hl : SmallJ (withS (putN g) l)) :
    ∃ c : Dev, recoverS d = (c, x, l, (g, (sizeJ (withS (putN g) l) : Int)), 0) ∧ LaidS b c g x l ∧ c.2.length ≤ 1 ∧ (blankJ t = true → c = d) ∧ (blankJ t = false → c.2.length = 1) := by
  obtain ⟨a, ha⟩ : ∃ a, a = sizeJ (withS (putN g) l) := ⟨_, rfl⟩
  have hbest : bestS d = (g, x) := best_of (by rw [hb]; exact hs)
  have hrec : recsS d = l := by unfold recsS; rw [hbest, hb]; exact ho
  have hend : endS d = a := by unfold endS; rw [hrec, hbest, ha]
  have hrl := regJ_length hg (f := 2 * (b / 4)) (b := b - 2 * (b / 4)) (by rw [hb]; omega)
  rw [← regS_eq] at hrl
  have hal : a ≤ 64 * (b - 2 * (b / 4)) := by
    rw [← hrl, hr, List.length_append, formsJ_length, ← ha]; omega
  have hd : (regJ d (regS b)).drop a = t := by rw [hr]; exact List.drop_left' (by rw [formsJ_length, ha])
  have htl : t.length = 64 * (b - 2 * (b / 4)) - a := by rw [← hd, List.length_drop, hrl]
  have hcl : cleanJ d (regS b) (a : Nat) = (blankJ t, 0) := by
    unfold cleanJ
    rw [regS_eq, placedJ_zero hg (by omega) (by rw [hb]; omega) hal, if_neg (by simp), Int.toNat_natCast, ← regS_eq, hd]
  refine ⟨doneS d, ?_, ?_⟩
  · unfold recoverS
    rw [good_chk hg, if_neg (by simp), if_neg (by omega), if_neg (by simp [hc]), hbest, if_neg (by show ¬ g = 0; omega), hrec, hend, ha]
  · have hdone : doneS d = if blankJ t = true then d else (cutJ d (regS b) (a : Nat)).1 := by unfold doneS; rw [hb, hend, hcl]
    by_cases hbt : blankJ t = true
    · rw [hdone, if_pos hbt]
      have ht : t = List.replicate (64 * (b - 2 * (b / 4)) - a) 0 := by
        rw [← htl]
        refine List.eq_replicate_iff.2 ⟨rfl, fun y hy => ?_⟩
        unfold blankJ at hbt
        have := List.all_eq_true.1 hbt y hy
        simpa using this
      refine ⟨⟨h8, hb, h1, h2, hs, hg, by omega, by rw [hb]; omega, by rw [← ha]; exact hal, ?_, hl⟩, by rw [hc]; exact Nat.zero_le _, fun _ => rfl, fun h => by rw [hbt] at h; cases h⟩
      rw [← regS_eq, hr, ← ha, ← ht]
    · rw [hdone, if_neg hbt]
      have hlt : a < 64 * (b - 2 * (b / 4)) := by
        rcases Nat.lt_or_ge a (64 * (b - 2 * (b / 4))) with h | h
        · exact h
        · exfalso; apply hbt
          have : t = [] := List.length_eq_zero_iff.1 (by omega)
          rw [this]; rfl
      have hzl : (List.replicate (64 * (b - 2 * (b / 4)) - a) (0 : UInt8)).length = 64 * (b - 2 * (b / 4)) - a := List.length_replicate
      have hzn : List.replicate (64 * (b - 2 * (b / 4)) - a) (0 : UInt8) ≠ [] := fun e => by rw [e] at hzl; simp at hzl; omega
      have hfit : 64 * (2 * (b / 4)) + a + (List.replicate (64 * (b - 2 * (b / 4)) - a) (0 : UInt8)).length ≤ 64 * d.1.length := by rw [hzl, hb]; omega
      have hw := writeD_ok hg (by rw [hc]; decide) (64 * (2 * (b / 4)) + a) _ hzn hfit
      have hgw := good_write hg (by rw [hc]; decide) (64 * (2 * (b / 4)) + a) _ hzn hfit
      have hcut : cutJ d (regS b) (a : Nat) = ((d.1, d.2 ++ [(((64 * (2 * (b / 4)) + a : Nat) : Int), List.replicate (64 * (b - 2 * (b / 4)) - a) 0)]), 0) := by
        unfold cutJ
        rw [regS_eq, placedJ_zero hg (by omega) (by rw [hb]; omega) hal, if_neg (by simp), if_neg (by show ¬ (a : Int) = 64 * ((b - 2 * (b / 4) : Nat) : Int); omega)]
        have e1 : (64 * ((b - 2 * (b / 4) : Nat) : Int) - (a : Int)).toNat = 64 * (b - 2 * (b / 4)) - a := by omega
        have e3 : 64 * ((2 * (b / 4) : Nat) : Int) + (a : Int) = ((64 * (2 * (b / 4)) + a : Nat) : Int) := by omega
        show writeD d (64 * ((2 * (b / 4) : Nat) : Int) + (a : Int)) (List.replicate (64 * ((b - 2 * (b / 4) : Nat) : Int) - (a : Int)).toNat 0) = _
        rw [e1, e3]
        exact hw
      have hra := readAll_write d (64 * (2 * (b / 4)) + a) (List.replicate (64 * (b - 2 * (b / 4)) - a) 0)
      have hBl := readAll_length hg
      rw [hcut]
      refine ⟨⟨h8, hb, h1, h2, ?_, hgw, by omega, by show _ ≤ d.1.length; rw [hb]; omega, by rw [← ha]; exact hal, ?_, hl⟩, by show (d.2 ++ [_]).length ≤ 1; rw [hc]; exact Nat.le_refl _, fun h => absurd h hbt, fun _ => by show (d.2 ++ [_]).length = 1; rw [hc]; rfl⟩
      · show HasS (readAll (d.1, d.2 ++ [_])) (slotN b) g x
        rw [hra]
        unfold HasS
        have h2s := slotN_two b
        have m1 : g % 2 = 0 ∨ g % 2 = 1 := by omega
        have m2 : (g + 1) % 2 = 0 ∨ (g + 1) % 2 = 1 := by omega
        rw [slotB_lay (by rw [hBl]; exact hfit) (.inl (by rcases m1 with e | e <;> rw [e] <;> omega)), slotB_lay (by rw [hBl]; exact hfit) (.inl (by rcases m2 with e | e <;> rw [e] <;> omega))]
        exact hs
      · rw [regJ_lay hBl (by rw [hb]; omega) (by rw [hzl]; omega) hra, ← regS_eq, hr]
        have := layF_at (formsJ (withS (putN g) l)) (List.replicate (64 * (b - 2 * (b / 4)) - a) 0) t
        rw [formsJ_length, ← ha] at this
        rw [this, List.drop_of_length_le (by omega), List.append_nil, ← ha]
/-- What is recovered from a laid device. -/
theorem recover_laid {b g : Nat} {d : Dev} {x : List UInt8} {l : List (List UInt8)} (h : LaidS b d g x l) (hc : d.2 = []) : recoverS d = (d, x, l, (g, (sizeJ (withS (putN g) l) : Int)), 0) := by
  obtain ⟨h8, hb, h1, h2, hs, hg, g2, g3, g4, g5, g6⟩ := h
  obtain ⟨c, q1, _, _, q4, _⟩ := recover_any (t := List.replicate (64 * (b - 2 * (b / 4)) - sizeJ (withS (putN g) l)) 0) h8 hb hg hc h1 h2 hs g5 (by rw [regS_eq, g5, recs_forms _ _ g6 (replicate_none _)]; exact own_with _ _) g6
  rw [q4 (blank_zeros _)] at q1
  exact q1
theorem sync_laid {b g : Nat} {d : Dev} {x : List UInt8} {l : List (List UInt8)} (h : LaidS b d g x l) : syncD d = ((chunk (readAll d), []), 0) ∧ LaidS b (chunk (readAll d), []) g x l := by
  obtain ⟨h8, hb, h1, h2, hs, hj⟩ := h
  have hrl := readAll_length hj.1
  refine ⟨syncD_ok hj.1, h8, by show (chunk (readAll d)).length = b; rw [chunk_len hrl, hb], h1, h2, ?_, laid_sync hj⟩
  rw [readAll_chunk hrl]; exact hs
theorem HasS.lay {B y : List UInt8} {s g p : Nat} {x : List UInt8} (h : HasS B s g x) (hp : 2 * s ≤ p) (hl : p + y.length ≤ B.length) : HasS (layF B p y) s g x := by
  unfold HasS
  have m1 : g % 2 = 0 ∨ g % 2 = 1 := by omega
  have m2 : (g + 1) % 2 = 0 ∨ (g + 1) % 2 = 1 := by omega
  rw [slotB_lay hl (.inl (by rcases m1 with e | e <;> rw [e] <;> omega)), slotB_lay hl (.inl (by rcases m2 with e | e <;> rw [e] <;> omega))]
  exact h
/-- A record is appended. -/
theorem append_laid {b g : Nat} {d : Dev} {x r : List UInt8} {l : List (List UInt8)} (h : LaidS b d g x l) (hc : d.2.length < 1000) (hr : r.length ≤ 5000) (hz : sizeJ (withS (putN g) l) + (r.length + 16) ≤ 64 * (b - 2 * (b / 4))) :
    appendS d (g, (sizeJ (withS (putN g) l) : Int)) r = ((d.1, d.2 ++ [(((64 * (2 * (b / 4)) + sizeJ (withS (putN g) l) : Nat) : Int), formJ (putN g ++ r))]), (g, ((sizeJ (withS (putN g) (l ++ [r])) : Nat) : Int)), 0) ∧
    LaidS b (d.1, d.2 ++ [(((64 * (2 * (b / 4)) + sizeJ (withS (putN g) l) : Nat) : Int), formJ (putN g ++ r))]) g x (l ++ [r]) := by
  obtain ⟨h8, hb, h1, h2, hs, hj⟩ := h
  have hpl := putN_length g h2
  have hxl : (putN g ++ r).length = (putN g).length + r.length := List.length_append
  have hlay := laid_step hj hc (x := putN g ++ r) (by omega) (by omega) (by omega)
  have hw : withS (putN g) (l ++ [r]) = withS (putN g) l ++ [putN g ++ r] := by unfold withS; rw [List.map_append]; rfl
  have hck : checkS d (g, (sizeJ (withS (putN g) l) : Int)) = 0 := by
    unfold checkS
    rw [good_chk hj.1, if_neg (by simp), if_neg]
    have := hj.2.2.2.1
    rw [hb, regS_eq]
    show ¬ (b < 8 ∨ g < 1 ∨ 1099511627776 < g ∨ (sizeJ (withS (putN g) l) : Int) < 0 ∨ 64 * ((b - 2 * (b / 4) : Nat) : Int) < (sizeJ (withS (putN g) l) : Int))
    omega
  have hbl := readAll_length hj.1
  have hfl := formJ_length (putN g ++ r)
  have h2s := slotN_two b
  refine ⟨?_, h8, hb, h1, h2, ?_, by rw [hw]; exact hlay.2⟩
  · unfold appendS
    rw [hck, if_neg (by simp), hb, regS_eq, hw]
    show (if (appendJ d _ (sizeJ (withS (putN g) l) : Nat) (putN g ++ r)).2.2 ≠ 0 then _ else ((appendJ d _ (sizeJ (withS (putN g) l) : Nat) (putN g ++ r)).1, (g, (appendJ d _ (sizeJ (withS (putN g) l) : Nat) (putN g ++ r)).2.1), 0)) = _
    rw [hlay.1, if_neg (by simp)]
  · rw [readAll_write]
    exact hs.lay (by omega) (by rw [hbl, hb, hfl]; omega)
/-- A crash in the middle of an append. -/
theorem append_crash {b g : Nat} {d : Dev} {x r : List UInt8} {l : List (List UInt8)} (h : LaidS b d g x l) (hc : d.2 = []) (hr : r.length ≤ 5000) (hz : sizeJ (withS (putN g) l) + (r.length + 16) ≤ 64 * (b - 2 * (b / 4))) (k t : Nat)
    (hkt : (k = 0 ∧ t ≤ (formJ (putN g ++ r)).length) ∨ (k = 1 ∧ t = 0)) :
    ∃ (C : List (List UInt8)) (c : Dev) (l' : List (List UInt8)), crashD (d.1, d.2 ++ [(((64 * (2 * (b / 4)) + sizeJ (withS (putN g) l) : Nat) : Int), formJ (putN g ++ r))]) k t = ((C, []), 0) ∧ C.length = b ∧
      recoverS (C, []) = (c, x, l', (g, (sizeJ (withS (putN g) l') : Int)), 0) ∧ LaidS b c g x l' ∧ c.2.length ≤ 1 ∧ (l' = l ∨ l' = l ++ [r]) := by
  obtain ⟨happ, hlay⟩ := append_laid h (by rw [hc]; decide) hr hz
  have hgd := hlay.good
  have hL := h
  obtain ⟨h8, hb, h1, h2, hs, hj⟩ := h
  have hpl := putN_length g h2
  have hxl : (putN g ++ r).length = (putN g).length + r.length := List.length_append
  have hfl := formJ_length (putN g ++ r)
  have hbl := readAll_length hj.1
  have h2s := slotN_two b
  rcases hkt with ⟨rfl, ht⟩ | ⟨rfl, rfl⟩
  · have hnx : nextD (d.1, d.2 ++ [(((64 * (2 * (b / 4)) + sizeJ (withS (putN g) l) : Nat) : Int), formJ (putN g ++ r))]) 0 = (((64 * (2 * (b / 4)) + sizeJ (withS (putN g) l) : Nat) : Int), formJ (putN g ++ r)) := by
      unfold nextD; rw [hc]; rfl
    have hcr := crashD_ok hgd 0 t (Nat.zero_le _) (by rw [hnx]; exact ht)
    have hr0 : readK (d.1, d.2 ++ [(((64 * (2 * (b / 4)) + sizeJ (withS (putN g) l) : Nat) : Int), formJ (putN g ++ r))]) 0 = readAll d := by
      unfold readK readAll; rw [hc]; rfl
    rw [hnx, hr0] at hcr
    dsimp only at hcr
    rw [Int.toNat_natCast] at hcr
    have htl : ((formJ (putN g ++ r)).take t).length = t := by rw [List.length_take]; omega
    obtain ⟨B, hB⟩ : ∃ B, B = layF (readAll d) (64 * (2 * (b / 4)) + sizeJ (withS (putN g) l)) ((formJ (putN g ++ r)).take t) := ⟨_, rfl⟩
    have hBl : B.length = 64 * b := by rw [hB, layF_length (by rw [hbl, hb, htl]; omega), hbl, hb]
    rw [← hB] at hcr
    have hCl := chunk_len hBl
    have hgC := good_chunk hBl (by omega) (by have := hj.1.2.1; omega)
    have hrC := readAll_chunk hBl
    have hHas : HasS (readAll (chunk B, [])) (slotN b) g x := by
      rw [hrC, hB]
      exact hs.lay (by omega) (by rw [hbl, hb, htl]; omega)
    obtain ⟨g1, g2, g3, g4, g5, g6⟩ := hj
    have hreg : regJ (chunk B, []) (regS b) = formsJ (withS (putN g) l) ++ ((formJ (putN g ++ r)).take t ++ List.replicate (64 * (b - 2 * (b / 4)) - sizeJ (withS (putN g) l) - t) 0) := by
      rw [regS_eq, regJ_lay (d := d) (d' := (chunk B, [])) hbl g3 (by rw [htl]; omega : sizeJ (withS (putN g) l) + ((formJ (putN g ++ r)).take t).length ≤ 64 * (b - 2 * (b / 4))) (by rw [hrC]; exact hB), g5]
      have := layF_end (formsJ (withS (putN g) l)) ((formJ (putN g ++ r)).take t) (64 * (b - 2 * (b / 4)) - sizeJ (withS (putN g) l)) (by omega)
      rw [formsJ_length, htl] at this
      rw [this, List.append_assoc]
    by_cases htt : t < (formJ (putN g ++ r)).length
    · have hn := torn_none (putN g ++ r) (by omega) t (64 * (b - 2 * (b / 4)) - sizeJ (withS (putN g) l) - t) (by omega)
      obtain ⟨c, q1, q2, q3, _⟩ := recover_any (d := (chunk B, [])) h8 hCl hgC rfl h1 h2 hHas hreg (by rw [hreg, recs_forms _ _ g6 hn]; exact own_with _ _) g6
      exact ⟨_, c, l, hcr, hCl, q1, q2, q3, .inl rfl⟩
    · have hte : t = (formJ (putN g ++ r)).length := by omega
      have hreg2 : regJ (chunk B, []) (regS b) = formsJ (withS (putN g) (l ++ [r])) ++ List.replicate (64 * (b - 2 * (b / 4)) - sizeJ (withS (putN g) l) - t) 0 := by
        have hw : withS (putN g) (l ++ [r]) = withS (putN g) l ++ [putN g ++ r] := by unfold withS; rw [List.map_append]; rfl
        rw [hreg, hte, List.take_length, hw, formsJ_snoc, List.append_assoc]
      have hsm := hlay.2.2.2.2.2.2.2.2.2.2
      obtain ⟨c, q1, q2, q3, _⟩ := recover_any (d := (chunk B, [])) h8 hCl hgC rfl h1 h2 hHas hreg2 (by rw [hreg2, recs_forms _ _ hsm (replicate_none _)]; exact own_with _ _) hsm
      exact ⟨_, c, l ++ [r], hcr, hCl, q1, q2, q3, .inr rfl⟩
  · have hend := crash_end hgd
    have hlen : (d.1, d.2 ++ [(((64 * (2 * (b / 4)) + sizeJ (withS (putN g) l) : Nat) : Int), formJ (putN g ++ r))]).2.length = 1 := by rw [hc]; rfl
    rw [hlen] at hend
    have hs2 := sync_laid hlay
    exact ⟨_, _, l ++ [r], hend, hs2.2.2.1, recover_laid hs2.2 rfl, hs2.2, Nat.zero_le _, .inr rfl⟩
end Go.Proofs.YtmfbkelhegdmpaaGreatDoor
/- Chapter 13, the plain law: a new snapshot, and a crash in the middle of it; new devices. -/
namespace Go.Proofs.YtmfbkelhegdmpaaGreatDoor
open Go.RowKit Disk11 Journal12 Sum2

theorem slotB_len {B : List UInt8} {s i : Nat} (h : s * i + s ≤ B.length) : (slotB B s i).length = s := by
  unfold slotB; rw [List.length_take, List.length_drop]; omega
/-- The four writes of a new snapshot. -/
def wrS (b g : Nat) (y : List UInt8) : List Wr :=
  [(((placeS b g : Nat) : Int), [0]), (((placeS b g + 1 : Nat) : Int), formS g y), (((placeS b g : Nat) : Int), [183]), (((64 * (2 * (b / 4)) + 0 : Nat) : Int), List.replicate (64 * (b - 2 * (b / 4))) 0)]
theorem place_le (b g : Nat) : placeS b g + slotN b ≤ 64 * (2 * (b / 4)) := by
  unfold placeS
  have h2 := slotN_two b
  have m : g % 2 = 0 ∨ g % 2 = 1 := by omega
  rcases m with e | e <;> rw [e] <;> omega
theorem slotN_ge (b : Nat) (h : 8 ≤ b) : 128 ≤ slotN b := by unfold slotN; omega
theorem check_laid {b g : Nat} {d : Dev} {x : List UInt8} {l : List (List UInt8)} (h : LaidS b d g x l) : checkS d (g, (sizeJ (withS (putN g) l) : Int)) = 0 := by
  obtain ⟨h8, hb, h1, h2, hs, hj⟩ := h
  unfold checkS
  rw [good_chk hj.1, if_neg (by simp), if_neg]
  have := hj.2.2.2.1
  rw [hb, regS_eq]
  show ¬ (b < 8 ∨ g < 1 ∨ 1099511627776 < g ∨ (sizeJ (withS (putN g) l) : Int) < 0 ∨ 64 * ((b - 2 * (b / 4) : Nat) : Int) < (sizeJ (withS (putN g) l) : Int))
  omega
theorem compact_laid {b g : Nat} {d : Dev} {x y : List UInt8} {l : List (List UInt8)} (h : LaidS b d g x l) (hc : d.2 = []) (hg : g + 1 ≤ 1099511627776) (hy : y.length + 17 ≤ slotN b) :
    compactS d (g, (sizeJ (withS (putN g) l) : Int)) y = ((d.1, wrS b (g + 1) y), (g + 1, 0), 0) ∧ Disk11.Good (d.1, wrS b (g + 1) y) := by
  have hck := check_laid h
  obtain ⟨h8, hb, h1, h2, hs, hj⟩ := h
  obtain ⟨D, cs⟩ := d
  dsimp only at hc hb ⊢
  subst hc
  subst hb
  have hgd := hj.1
  have hpl := place_le D.length (g + 1)
  have hsn := slotN_ge D.length h8
  have h2s := slotN_two D.length
  have hfl := formS_length (g + 1) y
  have hfn : formS (g + 1) y ≠ [] := fun e => by rw [e] at hfl; simp at hfl
  have hzl : (List.replicate (64 * (D.length - 2 * (D.length / 4))) (0 : UInt8)).length = 64 * (D.length - 2 * (D.length / 4)) := List.length_replicate
  have hzn : List.replicate (64 * (D.length - 2 * (D.length / 4))) (0 : UInt8) ≠ [] := fun e => by rw [e] at hzl; simp at hzl; omega
  have f1 : placeS D.length (g + 1) + [(0 : UInt8)].length ≤ 64 * (D, ([] : List Wr)).1.length := by show _ + 1 ≤ 64 * D.length; omega
  have w1 := writeD_ok hgd (by show 0 < 1000; decide) (placeS D.length (g + 1)) [0] (by simp) f1
  have g1 := good_write hgd (by show 0 < 1000; decide) (placeS D.length (g + 1)) [0] (by simp) f1
  dsimp only at w1 g1
  rw [List.nil_append] at w1 g1
  have f2 : placeS D.length (g + 1) + 1 + (formS (g + 1) y).length ≤ 64 * (D, [(((placeS D.length (g + 1) : Nat) : Int), [(0 : UInt8)])]).1.length := by show _ ≤ 64 * D.length; omega
  have w2 := writeD_ok g1 (by show 1 < 1000; decide) (placeS D.length (g + 1) + 1) (formS (g + 1) y) hfn f2
  have g2 := good_write g1 (by show 1 < 1000; decide) (placeS D.length (g + 1) + 1) (formS (g + 1) y) hfn f2
  dsimp only at w2 g2
  have f3 : placeS D.length (g + 1) + [(183 : UInt8)].length ≤ 64 * (D, [(((placeS D.length (g + 1) : Nat) : Int), [(0 : UInt8)])] ++ [(((placeS D.length (g + 1) + 1 : Nat) : Int), formS (g + 1) y)]).1.length := by show _ + 1 ≤ 64 * D.length; omega
  have w3 := writeD_ok g2 (by show 2 < 1000; decide) (placeS D.length (g + 1)) [183] (by simp) f3
  have g3 := good_write g2 (by show 2 < 1000; decide) (placeS D.length (g + 1)) [183] (by simp) f3
  dsimp only at w3 g3
  have f4 : 64 * (2 * (D.length / 4)) + 0 + (List.replicate (64 * (D.length - 2 * (D.length / 4))) (0 : UInt8)).length ≤ 64 * (D, [(((placeS D.length (g + 1) : Nat) : Int), [(0 : UInt8)])] ++ [(((placeS D.length (g + 1) + 1 : Nat) : Int), formS (g + 1) y)] ++ [(((placeS D.length (g + 1) : Nat) : Int), [(183 : UInt8)])]).1.length := by
    rw [hzl]; show _ ≤ 64 * D.length; omega
  have w4 := writeD_ok g3 (by show 3 < 1000; decide) (64 * (2 * (D.length / 4)) + 0) _ hzn f4
  have g4 := good_write g3 (by show 3 < 1000; decide) (64 * (2 * (D.length / 4)) + 0) _ hzn f4
  dsimp only at w4 g4
  refine ⟨?_, g4⟩
  have hcap : ¬ (capS (D.length : Nat)).1 < (y.length : Int) := by
    have := hgd.2.1
    dsimp only at this
    unfold capS
    rw [if_neg (by omega)]
    show ¬ 64 * ((D.length : Int) / 4) - 17 < (y.length : Int)
    unfold slotN at hy; omega
  have c1 : comp1 (D, []) (g + 1) = ((D, [(((placeS D.length (g + 1) : Nat) : Int), [0])]), 0) := w1
  have c2 : comp2 (D, [(((placeS D.length (g + 1) : Nat) : Int), [0])]) D.length (g + 1) y = ((D, [(((placeS D.length (g + 1) : Nat) : Int), [0])] ++ [(((placeS D.length (g + 1) + 1 : Nat) : Int), formS (g + 1) y)]), 0) := w2
  have c3 : comp3 (D, [(((placeS D.length (g + 1) : Nat) : Int), [0])] ++ [(((placeS D.length (g + 1) + 1 : Nat) : Int), formS (g + 1) y)]) D.length (g + 1) = ((D, [(((placeS D.length (g + 1) : Nat) : Int), [0])] ++ [(((placeS D.length (g + 1) + 1 : Nat) : Int), formS (g + 1) y)] ++ [(((placeS D.length (g + 1) : Nat) : Int), [183])]), 0) := w3
  have c4 : cutJ (D, [(((placeS D.length (g + 1) : Nat) : Int), [0])] ++ [(((placeS D.length (g + 1) + 1 : Nat) : Int), formS (g + 1) y)] ++ [(((placeS D.length (g + 1) : Nat) : Int), [183])]) (regS D.length) 0 = ((D, wrS D.length (g + 1) y), 0) := by
    unfold cutJ
    have e0 : (0 : Int) = ((0 : Nat) : Int) := rfl
    rw [regS_eq, e0, placedJ_zero g3 (by omega) (by show _ ≤ D.length; omega) (Nat.zero_le _), if_neg (by simp), if_neg (by show ¬ ((0 : Nat) : Int) = 64 * ((D.length - 2 * (D.length / 4) : Nat) : Int); omega)]
    have e1 : (64 * ((D.length - 2 * (D.length / 4) : Nat) : Int) - ((0 : Nat) : Int)).toNat = 64 * (D.length - 2 * (D.length / 4)) := by omega
    have e3 : 64 * ((2 * (D.length / 4) : Nat) : Int) + ((0 : Nat) : Int) = ((64 * (2 * (D.length / 4)) + 0 : Nat) : Int) := by omega
    show writeD _ (64 * ((2 * (D.length / 4) : Nat) : Int) + ((0 : Nat) : Int)) (List.replicate (64 * ((D.length - 2 * (D.length / 4) : Nat) : Int) - ((0 : Nat) : Int)).toNat 0) = _
    rw [e1, e3]
    exact w4
  unfold compactS
  rw [hck, if_neg (by simp), if_neg (by show ¬ g = 1099511627776; omega), if_neg hcap]
  dsimp only
  rw [c1, if_neg (by simp)]
  dsimp only
  rw [c2, if_neg (by simp)]
  dsimp only
  rw [c3, if_neg (by simp)]
  dsimp only
  rw [c4, if_neg (by simp)]
/-- Bytes on which the old snapshot is still the one. -/
theorem old_has {B0 B : List UInt8} {s g : Nat} {x : List UInt8} (h : HasS B0 s g x) (h1 : 1 ≤ g) (e1 : slotB B s (g % 2) = slotB B0 s (g % 2)) (e2 : (slotB B s ((g + 1) % 2))[0]? ≠ some 183) : HasS B s g x := by
  refine ⟨by rw [e1]; exact h.1, ?_⟩
  rw [look_none _ _ e2]; exact h1
theorem new_has {B0 B y t : List UInt8} {s g : Nat} {x : List UInt8} (h : HasS B0 s g x) (h2 : g + 1 ≤ 1099511627776) (hy : y.length < 4294967296) (e1 : slotB B s (g % 2) = slotB B0 s (g % 2)) (e2 : slotB B s ((g + 1) % 2) = 183 :: (formS (g + 1) y ++ t)) : HasS B s (g + 1) y := by
  refine ⟨by rw [e2]; exact look_form (g + 1) y t (by omega) h2 hy, ?_⟩
  rw [show (g + 1 + 1) % 2 = g % 2 by omega, e1, h.1]
  show g < g + 1
  omega
/-- A crash in the middle of a new snapshot. -/
theorem compact_crash {b g : Nat} {d : Dev} {x y : List UInt8} {l : List (List UInt8)} (h : LaidS b d g x l) (hc : d.2 = []) (hg : g + 1 ≤ 1099511627776) (hy : y.length + 17 ≤ slotN b) (hyl : y.length < 4294967296)
    (hne : ∀ r : List UInt8, (putN g ++ r).take (putN (g + 1)).length ≠ putN (g + 1)) (k t : Nat) (hk : k ≤ 4) (ht : t ≤ (nextD (d.1, wrS b (g + 1) y) k).2.length) :
    ∃ (C : List (List UInt8)) (c : Dev) (g' : Nat) (x' : List UInt8) (l' : List (List UInt8)), crashD (d.1, wrS b (g + 1) y) k t = ((C, []), 0) ∧ C.length = b ∧
      recoverS (C, []) = (c, x', l', (g', (sizeJ (withS (putN g') l') : Int)), 0) ∧ LaidS b c g' x' l' ∧ c.2.length ≤ 1 ∧ ((g' = g ∧ x' = x ∧ l' = l ∧ k < 3) ∨ (g' = g + 1 ∧ x' = y ∧ l' = [] ∧ 2 ≤ k ∧ (k = 3 → t = 0 → l ≠ [] → c.2.length = 1))) := by
  obtain ⟨_, hgd⟩ := compact_laid h hc hg hy
  obtain ⟨h8, hb, h1, h2, hs, hj⟩ := h
  obtain ⟨D, cs⟩ := d
  dsimp only at hc hb hgd ht ⊢
  subst hc
  subst hb
  obtain ⟨j1, j2, j3, j4, j5, j6⟩ := hj
  have hbl : D.flatten.length = 64 * D.length := readAll_length j1
  have hsB : HasS D.flatten (slotN D.length) g x := hs
  clear hs
  obtain ⟨s, hsd⟩ : ∃ s, s = slotN D.length := ⟨_, rfl⟩
  obtain ⟨P, hP⟩ : ∃ P, P = placeS D.length (g + 1) := ⟨_, rfl⟩
  have hPs : P = s * ((g + 1) % 2) := by rw [hP, hsd]; rfl
  have hpl := place_le D.length (g + 1)
  have hsn := slotN_ge D.length h8
  have h2s := slotN_two D.length
  have hfl := formS_length (g + 1) y
  rw [← hsd, ← hP] at hpl
  rw [← hsd] at hsn h2s hy hsB
  have m1 : g % 2 = 0 ∨ g % 2 = 1 := by omega
  have hoth : s * (g % 2) + s ≤ P ∨ P + s ≤ s * (g % 2) := by
    rw [hPs]
    rcases m1 with e | e
    · rw [e, show (g + 1) % 2 = 1 by omega]; left; omega
    · rw [e, show (g + 1) % 2 = 0 by omega]; right; omega
  have oth : ∀ q n : Nat, P ≤ q → q + n ≤ P + s → s * (g % 2) + s ≤ q ∨ q + n ≤ s * (g % 2) := fun q n a b => by
    rcases hoth with e | e
    · exact .inl (by omega)
    · exact .inr (by omega)
  have hsg : s * (g % 2) + s ≤ 2 * s := by rcases m1 with e | e <;> rw [e] <;> omega
  -- the bytes behind each write
  obtain ⟨F, hF⟩ : ∃ F, F = formS (g + 1) y := ⟨_, rfl⟩
  rw [← hF] at hfl
  obtain ⟨B0, hB0⟩ : ∃ B, B = D.flatten := ⟨_, rfl⟩
  obtain ⟨B1, hB1⟩ : ∃ B, B = layF B0 P [0] := ⟨_, rfl⟩
  obtain ⟨B2, hB2⟩ : ∃ B, B = layF B1 (P + 1) F := ⟨_, rfl⟩
  obtain ⟨B3, hB3⟩ : ∃ B, B = layF B2 P [183] := ⟨_, rfl⟩
  rw [← hB0] at hbl hsB
  have l1 : B1.length = 64 * D.length := by rw [hB1, layF_length (by show P + 1 ≤ _; omega), hbl]
  have l2 : B2.length = 64 * D.length := by rw [hB2, layF_length (by omega), l1]
  have l3 : B3.length = 64 * D.length := by rw [hB3, layF_length (by show P + 1 ≤ _; omega), l2]
  have o1 : slotB B1 s (g % 2) = slotB B0 s (g % 2) := by rw [hB1]; exact slotB_lay (by show P + 1 ≤ _; omega) (oth P 1 (Nat.le_refl _) (by omega))
  have o2f : ∀ u : List UInt8, u.length ≤ F.length → slotB (layF B1 (P + 1) u) s (g % 2) = slotB B0 s (g % 2) := fun u hu => by
    rw [← o1]; exact slotB_lay (by omega) (oth _ _ (by omega) (by omega))
  have o3 : slotB B3 s (g % 2) = slotB B0 s (g % 2) := by
    rw [← o2f F (Nat.le_refl _), ← hB2, hB3]; exact slotB_lay (by show P + 1 ≤ _; omega) (oth P 1 (Nat.le_refl _) (by omega))
  obtain ⟨S, hS⟩ : ∃ S, S = slotB B0 s ((g + 1) % 2) := ⟨_, rfl⟩
  have hSl : S.length = s := by rw [hS]; exact slotB_len (by rw [← hPs]; omega)
  obtain ⟨c0, S', hSc⟩ : ∃ c S', S = c :: S' := by
    cases S with
    | nil => rw [List.length_nil] at hSl; omega
    | cons c S' => exact ⟨c, S', rfl⟩
  have hS'l : S'.length + 1 = s := by rw [hSc, List.length_cons] at hSl; exact hSl
  have n1 : slotB B1 s ((g + 1) % 2) = 0 :: S' := by
    have := slotB_in (B := B0) (y := [0]) (s := s) (i := (g + 1) % 2) (q := 0) (by rw [← hPs]; omega) (by show 0 + 1 ≤ s; omega)
    rw [← hPs, Nat.add_zero, ← hB1, ← hS, hSc] at this
    rw [this]; rfl
  have n2f : ∀ u : List UInt8, u.length ≤ F.length → slotB (layF B1 (P + 1) u) s ((g + 1) % 2) = 0 :: (u ++ S'.drop u.length) := fun u hu => by
    have := slotB_in (B := B1) (y := u) (s := s) (i := (g + 1) % 2) (q := 1) (by rw [← hPs]; omega) (by omega)
    rw [← hPs, n1] at this
    rw [this]
    unfold layF
    rw [show 1 + u.length = u.length + 1 by omega, List.drop_succ_cons]
    rfl
  have n3 : slotB B3 s ((g + 1) % 2) = 183 :: (F ++ S'.drop F.length) := by
    have := slotB_in (B := B2) (y := [183]) (s := s) (i := (g + 1) % 2) (q := 0) (by rw [← hPs]; omega) (by show 0 + 1 ≤ s; omega)
    rw [← hPs, Nat.add_zero, ← hB3, hB2, n2f F (Nat.le_refl _)] at this
    rw [this]; rfl
  have d1 : B1.drop (64 * (2 * (D.length / 4))) = B0.drop (64 * (2 * (D.length / 4))) := by rw [hB1]; exact drop_lay (by show P + 1 ≤ _; omega) (by show P + 1 ≤ _; omega)
  have d2f : ∀ u : List UInt8, u.length ≤ F.length → (layF B1 (P + 1) u).drop (64 * (2 * (D.length / 4))) = B0.drop (64 * (2 * (D.length / 4))) := fun u hu => by
    rw [← d1]; exact drop_lay (by omega) (by omega)
  have d3 : B3.drop (64 * (2 * (D.length / 4))) = B0.drop (64 * (2 * (D.length / 4))) := by
    rw [← d2f F (Nat.le_refl _), ← hB2, hB3]; exact drop_lay (by show P + 1 ≤ _; omega) (by show P + 1 ≤ _; omega)
  have hgC : ∀ B : List UInt8, B.length = 64 * D.length → Disk11.Good (chunk B, []) := fun B hB => good_chunk hB j1.1 j1.2.1
  have hreg0 : regJ (D, []) (((2 * (D.length / 4) : Nat) : Int), ((D.length - 2 * (D.length / 4) : Nat) : Int)) = (B0.drop (64 * (2 * (D.length / 4)))).take (64 * (D.length - 2 * (D.length / 4))) := by rw [hB0]; rfl
  have hregB : ∀ B : List UInt8, B.length = 64 * D.length → regJ (chunk B, []) (regS D.length) = (B.drop (64 * (2 * (D.length / 4)))).take (64 * (D.length - 2 * (D.length / 4))) := fun B hB => by
    rw [regS_eq, regJ_nat, readAll_chunk hB]
  rw [hreg0] at j5
  have hrl0 : ((B0.drop (64 * (2 * (D.length / 4)))).take (64 * (D.length - 2 * (D.length / 4)))).length = 64 * (D.length - 2 * (D.length / 4)) := by rw [List.length_take, List.length_drop, hbl]; omega
  -- the old snapshot
  have hold : ∀ B : List UInt8, B.length = 64 * D.length → slotB B s (g % 2) = slotB B0 s (g % 2) → (B = B0 ∨ (slotB B s ((g + 1) % 2))[0]? ≠ some 183) → B.drop (64 * (2 * (D.length / 4))) = B0.drop (64 * (2 * (D.length / 4))) →
      ∃ c : Dev, recoverS (chunk B, []) = (c, x, l, (g, (sizeJ (withS (putN g) l) : Int)), 0) ∧ LaidS D.length c g x l ∧ c.2.length ≤ 1 := fun B hB e1 e2 e3 => by
    have hh : HasS (readAll (chunk B, [])) (slotN D.length) g x := by
      rw [readAll_chunk hB, ← hsd]
      rcases e2 with e | e
      · rw [e]; exact hsB
      · exact old_has hsB h1 e1 e
    have hr := hregB B hB
    rw [e3, j5] at hr
    obtain ⟨c, q1, q2, q3, _⟩ := recover_any (d := (chunk B, [])) h8 (chunk_len hB) (hgC B hB) rfl h1 h2 hh hr (by rw [hr, recs_forms _ _ j6 (replicate_none _)]; exact own_with _ _) j6
    exact ⟨c, q1, q2, q3⟩
  -- the new one
  have hnew : ∀ B : List UInt8, B.length = 64 * D.length → slotB B s (g % 2) = slotB B0 s (g % 2) → slotB B s ((g + 1) % 2) = 183 :: (F ++ S'.drop F.length) → ownS (putN (g + 1)) (recsJ ((B.drop (64 * (2 * (D.length / 4)))).take (64 * (D.length - 2 * (D.length / 4))))) = [] →
      ∃ c : Dev, recoverS (chunk B, []) = (c, y, [], (g + 1, (sizeJ (withS (putN (g + 1)) []) : Int)), 0) ∧ LaidS D.length c (g + 1) y [] ∧ c.2.length ≤ 1 ∧ (blankJ ((B.drop (64 * (2 * (D.length / 4)))).take (64 * (D.length - 2 * (D.length / 4)))) = false → c.2.length = 1) := fun B hB e1 e2 e3 => by
    have hh : HasS (readAll (chunk B, [])) (slotN D.length) (g + 1) y := by
      rw [readAll_chunk hB, ← hsd]
      exact new_has (t := S'.drop F.length) hsB hg hyl e1 (by rw [e2, hF])
    have hr := hregB B hB
    obtain ⟨c, q1, q2, q3, _, q5⟩ := recover_any (d := (chunk B, [])) (l := []) (t := regJ (chunk B, []) (regS D.length)) h8 (chunk_len hB) (hgC B hB) rfl (by omega) hg hh rfl (by rw [hr]; exact e3) (fun z hz => by cases hz)
    exact ⟨c, q1, q2, q3, by rw [← hr]; exact q5⟩
  have hown0 : ownS (putN (g + 1)) (recsJ ((B0.drop (64 * (2 * (D.length / 4)))).take (64 * (D.length - 2 * (D.length / 4))))) = [] := by
    rw [j5, recs_forms _ _ j6 (replicate_none _)]
    cases l with
    | nil => rfl
    | cons r l => exact own_other _ _ _ (hne r)
  have hcr := crashD_ok hgd k t hk ht
  have hK : k = 0 ∨ k = 1 ∨ k = 2 ∨ k = 3 ∨ k = 4 := by omega
  rcases hK with rfl | rfl | rfl | rfl | rfl
  · have hn : nextD (D, wrS D.length (g + 1) y) 0 = (((P : Nat) : Int), [0]) := by rw [hP]; rfl
    have hr : readK (D, wrS D.length (g + 1) y) 0 = B0 := by rw [hB0]; rfl
    rw [hn, hr] at hcr
    rw [hn] at ht
    dsimp only at hcr ht
    rw [Int.toNat_natCast] at hcr
    have ht2 : t = 0 ∨ t = 1 := by simp at ht; omega
    rcases ht2 with rfl | rfl
    · rw [List.take_zero, layF_nil] at hcr
      obtain ⟨c, q1, q2, q3⟩ := hold B0 hbl rfl (.inl rfl) rfl
      exact ⟨_, c, g, x, l, hcr, chunk_len hbl, q1, q2, q3, .inl ⟨rfl, rfl, rfl, by omega⟩⟩
    · rw [List.take_of_length_le (by simp), ← hB1] at hcr
      obtain ⟨c, q1, q2, q3⟩ := hold B1 l1 o1 (.inr (by rw [n1]; simp)) d1
      exact ⟨_, c, g, x, l, hcr, chunk_len l1, q1, q2, q3, .inl ⟨rfl, rfl, rfl, by omega⟩⟩
  · have hn : nextD (D, wrS D.length (g + 1) y) 1 = (((P + 1 : Nat) : Int), F) := by rw [hP, hF]; rfl
    have hr : readK (D, wrS D.length (g + 1) y) 1 = B1 := by rw [hB1, hB0, hP]; rfl
    rw [hn, hr] at hcr
    rw [hn] at ht
    dsimp only at hcr ht
    rw [Int.toNat_natCast] at hcr
    have hu : (F.take t).length ≤ F.length := by rw [List.length_take]; omega
    have hBl : (layF B1 (P + 1) (F.take t)).length = 64 * D.length := by rw [layF_length (by omega), l1]
    obtain ⟨c, q1, q2, q3⟩ := hold _ hBl (o2f _ hu) (.inr (by rw [n2f _ hu]; simp)) (d2f _ hu)
    exact ⟨_, c, g, x, l, hcr, chunk_len hBl, q1, q2, q3, .inl ⟨rfl, rfl, rfl, by omega⟩⟩
  · have hn : nextD (D, wrS D.length (g + 1) y) 2 = (((P : Nat) : Int), [183]) := by rw [hP]; rfl
    have hr : readK (D, wrS D.length (g + 1) y) 2 = B2 := by rw [hB2, hB1, hB0, hP, hF]; rfl
    rw [hn, hr] at hcr
    rw [hn] at ht
    dsimp only at hcr ht
    rw [Int.toNat_natCast] at hcr
    have ht2 : t = 0 ∨ t = 1 := by simp at ht; omega
    rcases ht2 with rfl | rfl
    · rw [List.take_zero, layF_nil] at hcr
      obtain ⟨c, q1, q2, q3⟩ := hold B2 l2 (by rw [hB2]; exact o2f F (Nat.le_refl _)) (.inr (by rw [hB2, n2f F (Nat.le_refl _)]; simp)) (by rw [hB2]; exact d2f F (Nat.le_refl _))
      exact ⟨_, c, g, x, l, hcr, chunk_len l2, q1, q2, q3, .inl ⟨rfl, rfl, rfl, by omega⟩⟩
    · rw [List.take_of_length_le (by simp), ← hB3] at hcr
      obtain ⟨c, q1, q2, q3, q4⟩ := hnew B3 l3 o3 n3 (by rw [d3]; exact hown0)
      exact ⟨_, c, g + 1, y, [], hcr, chunk_len l3, q1, q2, q3, .inr ⟨rfl, rfl, rfl, by omega, fun h => absurd h (by decide)⟩⟩
  · have hn : nextD (D, wrS D.length (g + 1) y) 3 = (((64 * (2 * (D.length / 4)) + 0 : Nat) : Int), List.replicate (64 * (D.length - 2 * (D.length / 4))) 0) := rfl
    have hr : readK (D, wrS D.length (g + 1) y) 3 = B3 := by rw [hB3, hB2, hB1, hB0, hP, hF]; rfl
    rw [hn, hr] at hcr
    rw [hn] at ht
    dsimp only at hcr ht
    rw [Int.toNat_natCast, Nat.add_zero, List.take_replicate] at hcr
    rw [List.length_replicate] at ht
    rw [Nat.min_eq_left ht] at hcr
    have htl : (List.replicate t (0 : UInt8)).length = t := List.length_replicate
    have hBl : (layF B3 (64 * (2 * (D.length / 4))) (List.replicate t 0)).length = 64 * D.length := by rw [layF_length (by omega), l3]
    have m2 : (g + 1) % 2 = 0 ∨ (g + 1) % 2 = 1 := by omega
    have hsg2 : s * ((g + 1) % 2) + s ≤ 2 * s := by rcases m2 with e | e <;> rw [e] <;> omega
    have a1 : slotB (layF B3 (64 * (2 * (D.length / 4))) (List.replicate t 0)) s (g % 2) = slotB B0 s (g % 2) := by rw [slotB_lay (by omega) (.inl (by omega))]; exact o3
    have a2 : slotB (layF B3 (64 * (2 * (D.length / 4))) (List.replicate t 0)) s ((g + 1) % 2) = 183 :: (F ++ S'.drop F.length) := by rw [slotB_lay (by omega) (.inl (by omega))]; exact n3
    obtain ⟨c, q1, q2, q3, q4⟩ := hnew _ hBl a1 a2 (by
      have e : ((layF B3 (64 * (2 * (D.length / 4))) (List.replicate t 0)).drop (64 * (2 * (D.length / 4)))).take (64 * (D.length - 2 * (D.length / 4))) = layF ((B0.drop (64 * (2 * (D.length / 4)))).take (64 * (D.length - 2 * (D.length / 4)))) 0 (List.replicate t 0) := by
        have := layF_drop (L := B3) (y := List.replicate t 0) (q := 64 * (2 * (D.length / 4))) (a := 0) (by omega)
        rw [Nat.add_zero] at this
        rw [this, layF_take (by omega) (by rw [List.length_drop, l3]; omega), d3]
      rw [e]
      rcases Nat.eq_zero_or_pos t with rfl | hp
      · rw [List.replicate_zero, layF_nil]; exact hown0
      · obtain ⟨t', rfl⟩ : ∃ t', t = t' + 1 := ⟨t - 1, by omega⟩
        have hz := recJ_zeros t' (((B0.drop (64 * (2 * (D.length / 4)))).take (64 * (D.length - 2 * (D.length / 4)))).drop (0 + (List.replicate (t' + 1) (0 : UInt8)).length))
        have := recs_forms [] _ (fun z hz => by cases hz) hz
        have e2 : layF ((B0.drop (64 * (2 * (D.length / 4)))).take (64 * (D.length - 2 * (D.length / 4)))) 0 (List.replicate (t' + 1) 0) = formsJ [] ++ (List.replicate (t' + 1) 0 ++ ((B0.drop (64 * (2 * (D.length / 4)))).take (64 * (D.length - 2 * (D.length / 4)))).drop (0 + (List.replicate (t' + 1) (0 : UInt8)).length)) := by
          unfold layF; simp
        rw [e2, this]; rfl)
    exact ⟨_, c, g + 1, y, [], hcr, chunk_len hBl, q1, q2, q3, .inr ⟨rfl, rfl, rfl, by omega, fun _ h0 hl => q4 (by
      subst h0
      have e0 : (List.replicate 0 (0 : UInt8)) = [] := rfl
      rw [e0, layF_nil, d3, j5]
      cases l with
      | nil => exact absurd rfl hl
      | cons r l => rfl)⟩⟩
  · have hn : nextD (D, wrS D.length (g + 1) y) 4 = (0, []) := rfl
    have hr : readK (D, wrS D.length (g + 1) y) 4 = layF B3 (64 * (2 * (D.length / 4)) + 0) (List.replicate (64 * (D.length - 2 * (D.length / 4))) 0) := by rw [hB3, hB2, hB1, hB0, hP, hF]; rfl
    rw [hn, hr] at hcr
    rw [hn] at ht
    have ht0 : t = 0 := by simpa using ht
    subst ht0
    dsimp only at hcr
    rw [List.take_nil, layF_nil, Nat.add_zero] at hcr
    have htl : (List.replicate (64 * (D.length - 2 * (D.length / 4))) (0 : UInt8)).length = 64 * (D.length - 2 * (D.length / 4)) := List.length_replicate
    have hBl : (layF B3 (64 * (2 * (D.length / 4))) (List.replicate (64 * (D.length - 2 * (D.length / 4))) 0)).length = 64 * D.length := by rw [layF_length (by omega), l3]
    have m2 : (g + 1) % 2 = 0 ∨ (g + 1) % 2 = 1 := by omega
    have hsg2 : s * ((g + 1) % 2) + s ≤ 2 * s := by rcases m2 with e | e <;> rw [e] <;> omega
    have a1 : slotB (layF B3 (64 * (2 * (D.length / 4))) (List.replicate (64 * (D.length - 2 * (D.length / 4))) 0)) s (g % 2) = slotB B0 s (g % 2) := by rw [slotB_lay (by omega) (.inl (by omega))]; exact o3
    have a2 : slotB (layF B3 (64 * (2 * (D.length / 4))) (List.replicate (64 * (D.length - 2 * (D.length / 4))) 0)) s ((g + 1) % 2) = 183 :: (F ++ S'.drop F.length) := by rw [slotB_lay (by omega) (.inl (by omega))]; exact n3
    obtain ⟨c, q1, q2, q3, q4⟩ := hnew _ hBl a1 a2 (by
      have e : ((layF B3 (64 * (2 * (D.length / 4))) (List.replicate (64 * (D.length - 2 * (D.length / 4))) 0)).drop (64 * (2 * (D.length / 4)))).take (64 * (D.length - 2 * (D.length / 4))) = layF ((B0.drop (64 * (2 * (D.length / 4)))).take (64 * (D.length - 2 * (D.length / 4)))) 0 (List.replicate (64 * (D.length - 2 * (D.length / 4))) 0) := by
        have := layF_drop (L := B3) (y := List.replicate (64 * (D.length - 2 * (D.length / 4))) 0) (q := 64 * (2 * (D.length / 4))) (a := 0) (by omega)
        rw [Nat.add_zero] at this
        rw [this, layF_take (by omega) (by rw [List.length_drop, l3]; omega), d3]
      rw [e]
      have e2 : layF ((B0.drop (64 * (2 * (D.length / 4)))).take (64 * (D.length - 2 * (D.length / 4)))) 0 (List.replicate (64 * (D.length - 2 * (D.length / 4))) 0) = formsJ [] ++ List.replicate (64 * (D.length - 2 * (D.length / 4))) 0 := by
        have hd0 : ((B0.drop (64 * (2 * (D.length / 4)))).take (64 * (D.length - 2 * (D.length / 4)))).drop (0 + (List.replicate (64 * (D.length - 2 * (D.length / 4))) (0 : UInt8)).length) = [] := List.drop_of_length_le (by rw [hrl0, htl]; omega)
        unfold layF; rw [hd0]; simp
      rw [e2, recs_forms [] _ (fun z hz => by cases hz) (replicate_none _)]; rfl)
    exact ⟨_, c, g + 1, y, [], hcr, chunk_len hBl, q1, q2, q3, .inr ⟨rfl, rfl, rfl, by omega, fun h => absurd h (by decide)⟩⟩
end Go.Proofs.YtmfbkelhegdmpaaGreatDoor
/- Chapter 13, the plain law: new devices with a first snapshot. -/
namespace Go.Proofs.YtmfbkelhegdmpaaGreatDoor
open Go.RowKit Disk11 Journal12 Sum2

theorem format_laid (b : Nat) (x : List UInt8) (h8 : 8 ≤ b) (hb : b ≤ 4096) (hx : x.length + 17 ≤ slotN b) : ∃ D : Dev, formatS (b : Int) x = (D, (1, 0), 0) ∧ D.2 = [] ∧ LaidS b D 1 x [] := by
  have hsn := slotN_ge b h8
  have h2s := slotN_two b
  have hfl := formS_length 1 x
  have hz := zeroD_good b (by omega) hb
  have hzl : (zeroD b).1.length = b := by simp [zeroD]
  have hne : (183 :: formS 1 x : List UInt8) ≠ [] := by simp
  have hyl : (183 :: formS 1 x : List UInt8).length = x.length + 17 := by rw [List.length_cons, hfl]
  have hfit : slotN b + (183 :: formS 1 x : List UInt8).length ≤ 64 * (zeroD b).1.length := by rw [hyl, hzl]; omega
  have hw := writeD_ok hz (by show 0 < 1000; decide) (slotN b) _ hne hfit
  have hgw := good_write hz (by show 0 < 1000; decide) (slotN b) _ hne hfit
  have hra := readAll_write (zeroD b) (slotN b) (183 :: formS 1 x)
  rw [zeroD_all] at hra
  have hZl : (List.replicate (64 * b) (0 : UInt8)).length = 64 * b := List.length_replicate
  have hL : LaidS b ((zeroD b).1, (zeroD b).2 ++ [(((slotN b : Nat) : Int), 183 :: formS 1 x)]) 1 x [] := by
    refine ⟨h8, hzl, Nat.le_refl _, by decide, ⟨?_, ?_⟩, hgw, by omega, by show _ ≤ (zeroD b).1.length; rw [hzl]; omega, Nat.zero_le _, ?_, fun y hy => by cases hy⟩
    · rw [hra]
      have := slotB_in (B := List.replicate (64 * b) 0) (y := 183 :: formS 1 x) (s := slotN b) (i := 1) (q := 0) (by rw [hZl]; omega) (by rw [hyl]; omega)
      rw [Nat.mul_one, Nat.add_zero] at this
      show lookS (slotB _ _ 1) 1 = _
      rw [this]
      exact look_form 1 x _ (by decide) (by decide) (by unfold slotN at hx; omega)
    · rw [hra]
      show (lookS (slotB _ _ 0) 0).1 < 1
      rw [slotB_lay (by rw [hZl]; rw [hzl] at hfit; exact hfit) (.inl (by omega)), look_none]
      · show 0 < 1; decide
      · unfold slotB
        rw [Nat.mul_zero, List.drop_zero, List.take_replicate]
        obtain ⟨m, hm⟩ : ∃ m, min (slotN b) (64 * b) = m + 1 := ⟨min (slotN b) (64 * b) - 1, by omega⟩
        rw [hm]; simp [List.replicate_succ]
    · rw [regJ_nat, hra, drop_lay (by rw [hZl]; rw [hzl] at hfit; exact hfit) (by rw [hyl]; omega), List.drop_replicate, List.take_replicate]
      show _ = List.replicate (64 * (b - 2 * (b / 4)) - 0) 0
      congr 1; omega
  have hs := sync_laid hL
  refine ⟨_, ?_, rfl, hs.2⟩
  unfold formatS
  have hcap : capS (b : Int) = (64 * ((b : Int) / 4) - 17, 0) := by unfold capS; rw [if_neg (by omega)]
  rw [hcap, if_neg (by simp), if_neg (by show ¬ 64 * ((b : Int) / 4) - 17 < (x.length : Int); unfold slotN at hx; omega), zeroD_new b (by omega) hb]
  have e : 64 * ((b : Int) / 4) = ((slotN b : Nat) : Int) := by unfold slotN; omega
  rw [e]
  dsimp only
  rw [hw, hs.1]
end Go.Proofs.YtmfbkelhegdmpaaGreatDoor
