/- The plain law of chapter 11 (disk): devices as lists; no program in sight. -/
import Derived.Test.YtiemlaofhmncdaaProg
namespace Go.Proofs.Disk11

/-- A write of the cache: where, and its bytes. -/
abbrev Wr := Int × List UInt8
/-- A device: its blocks, its cache. -/
abbrev Dev := List (List UInt8) × List Wr

/-- n bytes from p on lie within a device of so many bytes. -/
def inside (sz p n : Int) : Bool := decide (0 ≤ p) && (decide (0 ≤ n) && (decide (p ≤ sz) && decide (n ≤ sz - p)))
theorem inside_iff (sz p n : Int) : inside sz p n = true ↔ 0 ≤ p ∧ 0 ≤ n ∧ p ≤ sz ∧ n ≤ sz - p := by
  unfold inside; simp

/-- The first fault of a device, and its number. -/
def badBlock (b : List UInt8) : Bool := b.length != 64
def badWrite (sz : Int) (w : Wr) : Bool := w.2.isEmpty || !inside sz w.1 w.2.length
def size (d : Dev) : Nat := 64 * d.1.length
def chk (d : Dev) : Nat × Nat :=
  if d.1.length < 1 ∨ 4096 < d.1.length then (5, 0) else
  match d.1.findIdx? badBlock with
  | some i => (3, i)
  | none => if 1000 < d.2.length then (5, 0) else
    match d.2.findIdx? (badWrite (size d)) with
    | some i => (2, i)
    | none => (0, 0)

/-- A write laid onto bytes. -/
def layF (b : List UInt8) (p : Nat) (x : List UInt8) : List UInt8 := b.take p ++ x ++ b.drop (p + x.length)
theorem layF_nil (b : List UInt8) (p : Nat) : layF b p [] = b := by unfold layF; simp
theorem layF_length {b x : List UInt8} {p : Nat} (h : p + x.length ≤ b.length) : (layF b p x).length = b.length := by
  unfold layF; simp; omega
theorem layF_get {b x : List UInt8} {p : Nat} (h : p + x.length ≤ b.length) (i : Nat) : (layF b p x)[i]? = if p ≤ i ∧ i < p + x.length then x[i - p]? else b[i]? := by
  unfold layF
  by_cases h1 : i < p
  · rw [if_neg (by omega), List.append_assoc, List.getElem?_append_left (by simp; omega), List.getElem?_take_of_lt h1]
  · by_cases h2 : i < p + x.length
    · rw [if_pos (by omega), List.append_assoc, List.getElem?_append_right (by simp; omega), List.length_take, Nat.min_eq_left (by omega), List.getElem?_append_left (by omega)]
    · rw [if_neg (by omega), List.getElem?_append_right (by simp; omega), List.getElem?_drop]
      congr 1
      simp; omega
/-- Laying in two steps. -/
theorem layF_append {b x y : List UInt8} {p : Nat} (h : p + x.length + y.length ≤ b.length) : layF (layF b p x) (p + x.length) y = layF b p (x ++ y) := by
  apply List.ext_getElem?
  intro i
  have hl : (layF b p x).length = b.length := layF_length (by omega)
  rw [layF_get (by rw [hl]; omega), layF_get (by omega), layF_get (by simp; omega)]
  by_cases h1 : p ≤ i ∧ i < p + x.length
  · rw [if_neg (by omega), if_pos h1, if_pos (by simp; omega), List.getElem?_append_left (by omega)]
  · by_cases h2 : p + x.length ≤ i ∧ i < p + x.length + y.length
    · rw [if_pos h2, if_pos (by simp; omega), List.getElem?_append_right (by omega)]
      congr 1; omega
    · rw [if_neg h2, if_neg h1, if_neg (by simp; omega)]

/-- All bytes of the first k writes' device. -/
def readK (d : Dev) (k : Nat) : List UInt8 := (d.2.take k).foldl (fun b w => layF b w.1.toNat w.2) d.1.flatten
def readAll (d : Dev) : List UInt8 := d.2.foldl (fun b w => layF b w.1.toNat w.2) d.1.flatten
theorem readK_all (d : Dev) : readK d d.2.length = readAll d := by unfold readK readAll; rw [List.take_length]

/-- The blocks of bytes. -/
def chunk (b : List UInt8) : List (List UInt8) := (List.range (b.length / 64)).map fun i => (b.drop (64 * i)).take 64
theorem chunk_length (b : List UInt8) : (chunk b).length = b.length / 64 := by unfold chunk; simp
theorem chunk_get (b : List UInt8) (i : Nat) (h : i < b.length / 64) : (chunk b)[i]? = some ((b.drop (64 * i)).take 64) := by
  unfold chunk; simp [h]
def Whole (bs : List (List UInt8)) : Prop := ∀ b ∈ bs, b.length = 64
theorem flatten_length : ∀ {bs : List (List UInt8)}, Whole bs → bs.flatten.length = 64 * bs.length
  | [], _ => rfl
  | b :: bs, h => by
    have := flatten_length (bs := bs) (fun x hx => h x (List.mem_cons_of_mem _ hx))
    have h1 := h b List.mem_cons_self
    rw [List.flatten_cons, List.length_append, this, h1, List.length_cons]; omega
theorem flatten_drop : ∀ {bs : List (List UInt8)} (i : Nat), Whole bs → bs.flatten.drop (64 * i) = (bs.drop i).flatten
  | bs, 0, _ => by simp
  | [], i + 1, _ => by simp
  | b :: bs, i + 1, h => by
    have h1 := h b List.mem_cons_self
    rw [List.flatten_cons, List.drop_append, List.drop_of_length_le (by omega), List.nil_append, show 64 * (i + 1) - b.length = 64 * i by omega, flatten_drop i (fun x hx => h x (List.mem_cons_of_mem _ hx)), List.drop_succ_cons]
theorem chunk_flatten {bs : List (List UInt8)} (h : Whole bs) : chunk bs.flatten = bs := by
  have hl := flatten_length h
  apply List.ext_getElem?
  intro i
  by_cases hi : i < bs.length
  · rw [chunk_get _ _ (by omega), flatten_drop i h, List.drop_eq_getElem_cons hi, List.flatten_cons, List.take_append_of_le_length (by rw [h _ (List.getElem_mem hi)]; exact Nat.le_refl _), List.take_of_length_le (by rw [h _ (List.getElem_mem hi)]; exact Nat.le_refl _), List.getElem?_eq_getElem hi]
  · rw [List.getElem?_eq_none (by rw [chunk_length]; omega), List.getElem?_eq_none (by omega)]
theorem flatten_get {bs : List (List UInt8)} (h : Whole bs) (i j : Nat) (hj : j < 64) : bs.flatten[64 * i + j]? = (bs[i]?).bind fun b => b[j]? := by
  rw [← List.getElem?_drop, flatten_drop i h]
  by_cases hi : i < bs.length
  · rw [List.drop_eq_getElem_cons hi, List.flatten_cons, List.getElem?_append_left (by rw [h _ (List.getElem_mem hi)]; exact hj), List.getElem?_eq_getElem hi]; rfl
  · rw [List.drop_of_length_le (by omega), List.getElem?_eq_none (l := bs) (by omega)]; rfl
theorem chunk_whole (b : List UInt8) : Whole (chunk b) := by
  intro x hx
  unfold chunk at hx
  rw [List.mem_map] at hx
  obtain ⟨i, hi, rfl⟩ := hx
  rw [List.mem_range] at hi
  rw [List.length_take, List.length_drop]; omega
theorem flatten_chunk {b : List UInt8} {n : Nat} (h : b.length = 64 * n) : (chunk b).flatten = b := by
  have hc := flatten_length (chunk_whole b)
  rw [chunk_length, h, Nat.mul_div_cancel_left _ (by omega : 0 < 64)] at hc
  apply List.ext_getElem?
  intro i
  by_cases hi : i < b.length
  · have e : i = 64 * (i / 64) + i % 64 := by omega
    rw [e, flatten_get (chunk_whole b) _ _ (by omega), chunk_get _ _ (by omega)]
    simp only [Option.bind_some]
    rw [List.getElem?_take_of_lt (by omega), List.getElem?_drop]
  · rw [List.getElem?_eq_none (by omega), List.getElem?_eq_none (by omega)]

/-- One step of the program's lay: a part of the data within one block. -/
theorem lay_step {bs : List (List UInt8)} (hw : Whole bs) {k f : Nat} {x : List UInt8} (hk : k < bs.length) (hf : f + x.length ≤ 64) :
    (bs.set k (layF bs[k] f x)).flatten = layF bs.flatten (64 * k + f) x ∧ Whole (bs.set k (layF bs[k] f x)) := by
  have hbk := hw _ (List.getElem_mem hk)
  have hw' : Whole (bs.set k (layF bs[k] f x)) := by
    intro b hb
    rcases List.mem_or_eq_of_mem_set hb with h | h
    · exact hw b h
    · rw [h, layF_length (by omega)]; exact hbk
  refine ⟨?_, hw'⟩
  have hl := flatten_length hw
  apply List.ext_getElem?
  intro i
  rw [layF_get (by omega)]
  have e : i = 64 * (i / 64) + i % 64 := by omega
  rw [e, flatten_get hw' _ _ (by omega), flatten_get hw _ _ (by omega)]
  generalize i / 64 = q at *
  have hm : i % 64 < 64 := by omega
  generalize i % 64 = m at *
  by_cases hq : q = k
  · subst hq
    rw [List.getElem?_set_self hk]
    simp only [Option.bind_some, List.getElem?_eq_getElem hk]
    rw [layF_get (by omega)]
    by_cases h1 : f ≤ m ∧ m < f + x.length
    · rw [if_pos h1, if_pos (by omega)]; congr 1; omega
    · rw [if_neg h1, if_neg (by omega)]
  · rw [List.getElem?_set_ne (by omega), if_neg]
    omega

/-- What the last write that has a byte says of it. -/
def cover (w : Wr) (p : Nat) : Option UInt8 := if w.1 ≤ p ∧ (p : Int) < w.1 + w.2.length then w.2[(p - w.1).toNat]? else none
def look : List Wr → Nat → Option UInt8
  | [], _ => none
  | w :: ws, p => (look ws p).or (cover w p)
theorem look_snoc : ∀ (ws : List Wr) (w : Wr) (p : Nat), look (ws ++ [w]) p = (cover w p).or (look ws p)
  | [], w, p => by simp [look]
  | v :: ws, w, p => by
    rw [List.cons_append, look, look_snoc ws w p, look]
    cases cover w p <;> simp
/-- A device that Check takes. -/
def Good (d : Dev) : Prop := 1 ≤ d.1.length ∧ d.1.length ≤ 4096 ∧ Whole d.1 ∧ d.2.length ≤ 1000 ∧ ∀ w ∈ d.2, w.2 ≠ [] ∧ 0 ≤ w.1 ∧ w.1 + w.2.length ≤ size d
theorem fold_length : ∀ (ws : List Wr) (b : List UInt8), (∀ w ∈ ws, 0 ≤ w.1 ∧ w.1 + w.2.length ≤ b.length) → (ws.foldl (fun b w => layF b w.1.toNat w.2) b).length = b.length
  | [], _, _ => rfl
  | w :: ws, b, h => by
    have h1 := h w List.mem_cons_self
    have hl : (layF b w.1.toNat w.2).length = b.length := layF_length (by omega)
    rw [List.foldl_cons, fold_length ws _ (fun v hv => by rw [hl]; exact h v (List.mem_cons_of_mem _ hv)), hl]
theorem fold_get : ∀ (ws : List Wr) (b : List UInt8), (∀ w ∈ ws, 0 ≤ w.1 ∧ w.1 + w.2.length ≤ b.length) → ∀ (p : Nat), (ws.foldl (fun b w => layF b w.1.toNat w.2) b)[p]? = (look ws p).or b[p]?
  | [], _, _, _ => by simp [look]
  | w :: ws, b, h, p => by
    have h1 := h w List.mem_cons_self
    have hl : (layF b w.1.toNat w.2).length = b.length := layF_length (by omega)
    rw [List.foldl_cons, fold_get ws _ (fun v hv => by rw [hl]; exact h v (List.mem_cons_of_mem _ hv)), layF_get (by omega), look]
    cases hlk : look ws p with
    | some x => simp
    | none =>
      simp only [Option.none_or]
      unfold cover
      by_cases hc : w.1.toNat ≤ p ∧ p < w.1.toNat + w.2.length
      · rw [if_pos hc, if_pos (by omega)]
        have e : p - w.1.toNat = (p - w.1).toNat := by omega
        rw [e, List.getElem?_eq_getElem (by omega)]; simp
      · rw [if_neg hc, if_neg (by omega)]; simp
theorem readAll_get {d : Dev} (h : Good d) (p : Nat) : (readAll d)[p]? = (look d.2 p).or d.1.flatten[p]? := by
  obtain ⟨_, _, hw, _, hc⟩ := h
  exact fold_get _ _ (fun w hw' => by rw [flatten_length hw]; have := hc w hw'; exact ⟨this.2.1, by have := this.2.2; unfold size at this; omega⟩) p
theorem readK_length {d : Dev} (h : Good d) (k : Nat) : (readK d k).length = 64 * d.1.length := by
  obtain ⟨_, _, hw, _, hc⟩ := h
  unfold readK
  rw [fold_length _ _ (fun w hw' => by rw [flatten_length hw]; have := hc w (List.mem_of_mem_take hw'); exact ⟨this.2.1, by have := this.2.2; unfold size at this; omega⟩), flatten_length hw]
theorem readAll_length {d : Dev} (h : Good d) : (readAll d).length = 64 * d.1.length := by rw [← readK_all, readK_length h]
theorem readK_succ {d : Dev} {k : Nat} (h : k < d.2.length) : readK d (k + 1) = layF (readK d k) d.2[k].1.toNat d.2[k].2 := by
  unfold readK
  rw [List.take_succ_eq_append_getElem h, List.foldl_append]; rfl

theorem chk_good (d : Dev) : chk d = (0, 0) ↔ Good d := by
  unfold chk Good
  constructor
  · intro h
    split at h
    · simp at h
    · rename_i h1
      split at h
      · simp at h
      · rename_i h2
        split at h
        · simp at h
        · rename_i h3
          split at h
          · simp at h
          · rename_i h4
            rw [List.findIdx?_eq_none_iff] at h2 h4
            refine ⟨by omega, by omega, fun b hb => ?_, by omega, fun w hw => ?_⟩
            · have := h2 b hb
              unfold badBlock at this
              simpa using this
            · have := h4 w hw
              unfold badWrite at this
              rw [Bool.or_eq_false_iff, Bool.not_eq_false', inside_iff] at this
              obtain ⟨a, b, c, e, f⟩ := this
              refine ⟨fun e => by rw [e] at a; simp at a, b, by omega⟩
  · rintro ⟨h1, h2, h3, h4, h5⟩
    rw [if_neg (by omega)]
    have e1 : d.1.findIdx? badBlock = none := by
      rw [List.findIdx?_eq_none_iff]
      intro b hb
      unfold badBlock
      simpa using h3 b hb
    have e2 : d.2.findIdx? (badWrite (size d)) = none := by
      rw [List.findIdx?_eq_none_iff]
      intro w hw
      obtain ⟨a, b, c⟩ := h5 w hw
      unfold badWrite
      rw [Bool.or_eq_false_iff, Bool.not_eq_false', inside_iff]
      exact ⟨by simpa using a, b, by omega, by omega, by omega⟩
    rw [e1, e2]
    dsimp only
    rw [if_neg (by omega)]

/-- What New, Write, Read, Sync, Crash, Crashes, Dirty answer. -/
def none0 : Dev := ([], [])
def newD (n : Int) : Dev × Nat := if n < 1 ∨ 4096 < n then (none0, 2) else ((List.replicate n.toNat (List.replicate 64 0), []), 0)
def writeD (d : Dev) (p : Int) (x : List UInt8) : Dev × Nat :=
  if (chk d).1 ≠ 0 then (none0, (chk d).1) else if (x.isEmpty || !inside (size d) p x.length) = true then (none0, 2) else if 1000 ≤ d.2.length then (none0, 5) else ((d.1, d.2 ++ [(p, x)]), 0)
def readD (d : Dev) (p n : Int) : List UInt8 × Nat :=
  if (chk d).1 ≠ 0 then ([], (chk d).1) else if inside (size d) p n = false then ([], 2) else (((readAll d).drop p.toNat).take n.toNat, 0)
def syncD (d : Dev) : Dev × Nat := if (chk d).1 ≠ 0 then (none0, (chk d).1) else ((chunk (readAll d), []), 0)
def nextD (d : Dev) (k : Nat) : Wr := (d.2[k]?).getD (0, [])
def crashD (d : Dev) (keep torn : Int) : Dev × Nat :=
  if (chk d).1 ≠ 0 then (none0, (chk d).1) else if keep < 0 ∨ (d.2.length : Int) < keep then (none0, 2) else
  if torn < 0 ∨ ((nextD d keep.toNat).2.length : Int) < torn then (none0, 2) else
  ((chunk (layF (readK d keep.toNat) (nextD d keep.toNat).1.toNat ((nextD d keep.toNat).2.take torn.toNat)), []), 0)
def crashesD (d : Dev) : Nat × Nat := if (chk d).1 ≠ 0 then (0, (chk d).1) else (1 + (d.2.map fun w => w.2.length).sum, 0)
def dirtyL (d : Dev) : List Nat := (List.range d.1.length).filter fun i => (chunk (readAll d))[i]? != d.1[i]?
def dirtyD (d : Dev) : List Nat × Nat := if (chk d).1 ≠ 0 then ([], (chk d).1) else (dirtyL d, 0)
theorem chk_ok {d : Dev} (h : (chk d).1 = 0) : chk d = (0, 0) := by
  unfold chk at *
  split at h
  · cases h
  · rename_i h1
    rw [if_neg h1]
    split at h
    · cases h
    · rename_i h2
      split at h
      · cases h
      · rename_i h3
        rw [if_neg h3]
        split at h
        · cases h
        · rename_i h4; first | rfl | rw [h4]
end Go.Proofs.Disk11
