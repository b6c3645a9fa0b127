/- The plain law of chapter 2 (sum): registers as numbers; no program in sight. -/
namespace Go.Proofs.Sum2

/-- One bit of CRC-32C. -/
def down (x : Nat) : Nat := if x % 2 = 1 then (x / 2) ^^^ 0x82F63B78 else x / 2
/-- One bit of CRC-16. -/
def up (x : Nat) : Nat := if 32768 ≤ x then (2 * x % 65536) ^^^ 0x1021 else 2 * x % 65536

def tab : List Nat := [0x00000000, 0x105EC76F, 0x20BD8EDE, 0x30E349B1, 0x417B1DBC, 0x5125DAD3, 0x61C69362, 0x7198540D,
  0x82F63B78, 0x92A8FC17, 0xA24BB5A6, 0xB21572C9, 0xC38D26C4, 0xD3D3E1AB, 0xE330A81A, 0xF36E6F75]

def iter (f : Nat → Nat) : Nat → Nat → Nat
  | 0, x => x
  | n + 1, x => iter f n (f x)

theorem iter_add (f : Nat → Nat) (m n x : Nat) : iter f (m + n) x = iter f n (iter f m x) := by
  induction m generalizing x with
  | zero => simp [iter]
  | succ m ih => rw [Nat.succ_add]; exact ih (f x)

theorem iter_succ' (f : Nat → Nat) (n x : Nat) : iter f (n + 1) x = f (iter f n x) := by
  rw [iter_add]; rfl

theorem xor_pp (a b p : Nat) : (a ^^^ p) ^^^ (b ^^^ p) = a ^^^ b := by
  have : (a ^^^ p) ^^^ (b ^^^ p) = (a ^^^ b) ^^^ (p ^^^ p) := by ac_rfl
  rw [this, Nat.xor_self, Nat.xor_zero]

theorem down_xor (x y : Nat) : down (x ^^^ y) = down x ^^^ down y := by
  have hx : (x ^^^ y) / 2 = (x / 2) ^^^ (y / 2) := by
    have := Nat.shiftRight_xor_distrib (a := x) (b := y) (i := 1); simpa [Nat.shiftRight_succ] using this
  have hm : (x ^^^ y) % 2 = (x % 2 + y % 2) % 2 := by
    have := Nat.xor_mod_two_pow (a := x) (b := y) (n := 1); simp at this
    rw [this]; rcases Nat.mod_two_eq_zero_or_one x with h | h <;> rcases Nat.mod_two_eq_zero_or_one y with g | g <;> simp [h, g]
  unfold down
  rw [hx, hm]
  rcases Nat.mod_two_eq_zero_or_one x with h | h <;> rcases Nat.mod_two_eq_zero_or_one y with g | g <;> simp only [h, g]
  · rfl
  · simp; ac_rfl
  · simp; ac_rfl
  · simp; exact (xor_pp _ _ _).symm

theorem iter_xor {f : Nat → Nat} (hf : ∀ x y, f (x ^^^ y) = f x ^^^ f y) (n x y : Nat) : iter f n (x ^^^ y) = iter f n x ^^^ iter f n y := by
  induction n generalizing x y with
  | zero => rfl
  | succ n ih => simp only [iter, hf, ih]

theorem split4 (x : Nat) : x = (x / 16 * 16) ^^^ (x % 16) := by
  have h : x / 16 * 16 = (x / 16) <<< 4 := by rw [Nat.shiftLeft_eq]
  have := Nat.shiftLeft_add_eq_or_of_lt (i := 4) (b := x % 16) (by have := Nat.mod_lt x (show 16 > 0 by decide); simpa using this) (x / 16)
  have e : x / 16 * 16 + x % 16 = x := by omega
  rw [← h] at this
  rw [this] at e
  have hx : (x / 16 * 16) ^^^ (x % 16) = (x / 16 * 16) ||| (x % 16) := by
    rw [h]
    apply Nat.eq_of_testBit_eq
    intro i
    simp only [Nat.testBit_xor, Nat.testBit_or, Nat.testBit_shiftLeft, show (16:Nat) = 2^4 from rfl, Nat.testBit_mod_two_pow]
    by_cases hi : 4 ≤ i
    · simp [hi, Nat.not_lt.2 hi]
    · simp [hi]
  rw [hx, e]

theorem down4_hi (y : Nat) : iter down 4 (y * 16) = y := by
  have h : ∀ z, down (z * 2) = z := by intro z; simp [down]
  show down (down (down (down (y * 16)))) = y
  rw [show y * 16 = y * 2 * 2 * 2 * 2 by omega, h, h, h, h]

theorem down4_lo (k : Nat) (hk : k < 16) : iter down 4 k = tab[k]?.getD 0 := by
  have : ∀ k : Fin 16, iter down 4 k.1 = tab[k.1]?.getD 0 := by decide +kernel
  exact this ⟨k, hk⟩

theorem down4 (x : Nat) : iter down 4 x = (x / 16) ^^^ (tab[x % 16]?.getD 0) := by
  have hk : x % 16 < 16 := Nat.mod_lt _ (by decide)
  have h1 := congrArg (iter down 4) (split4 x)
  rw [iter_xor down_xor, down4_hi, down4_lo _ hk] at h1
  exact h1

theorem iter_zero_fix {f : Nat → Nat} (h0 : f 0 = 0) (n : Nat) : iter f n 0 = 0 := by
  induction n with
  | zero => rfl
  | succ n ih => simp only [iter, h0, ih]

theorem down_two (m : Nat) : down (2 * m) = m := by simp [down]

theorem down_lt {x : Nat} (h : x < 4294967296) : down x < 4294967296 := by
  unfold down
  split
  · exact Nat.xor_lt_two_pow (n := 32) (by omega) (by decide)
  · omega

theorem iter_lt {f : Nat → Nat} {B : Nat} (hf : ∀ x, x < B → f x < B) (n : Nat) {x : Nat} (h : x < B) : iter f n x < B := by
  induction n generalizing x with
  | zero => exact h
  | succ n ih => exact ih (hf x h)

/-- The inverse of 'down'. -/
def back (x : Nat) : Nat := if 2147483648 ≤ x then (x ^^^ 0x82F63B78) * 2 + 1 else x * 2

theorem top_xor (a b : Nat) (ha : a < 4294967296) (hb : b < 4294967296) (h1 : 2147483648 ≤ a) (h2 : 2147483648 ≤ b) : a ^^^ b < 2147483648 := by
  have e1 : (a ^^^ b) / 2147483648 = (a / 2147483648) ^^^ (b / 2147483648) := by
    have := Nat.shiftRight_xor_distrib (a := a) (b := b) (i := 31); simpa [Nat.shiftRight_eq_div_pow] using this
  have e2 : a / 2147483648 = 1 := by omega
  have e3 : b / 2147483648 = 1 := by omega
  rw [e2, e3] at e1
  have : (a ^^^ b) / 2147483648 = 0 := e1
  omega

theorem top_xor' (a b : Nat) (ha : a < 2147483648) (hb : b < 4294967296) (h2 : 2147483648 ≤ b) : 2147483648 ≤ a ^^^ b := by
  have e1 : (a ^^^ b) / 2147483648 = (a / 2147483648) ^^^ (b / 2147483648) := by
    have := Nat.shiftRight_xor_distrib (a := a) (b := b) (i := 31); simpa [Nat.shiftRight_eq_div_pow] using this
  have e2 : a / 2147483648 = 0 := by omega
  have e3 : b / 2147483648 = 1 := by omega
  rw [e2, e3] at e1
  have : (a ^^^ b) / 2147483648 = 1 := e1
  omega

theorem xor_cancel (a p : Nat) : (a ^^^ p) ^^^ p = a := by rw [Nat.xor_assoc, Nat.xor_self, Nat.xor_zero]

theorem back_lt {x : Nat} (h : x < 4294967296) : back x < 4294967296 := by
  unfold back
  split
  · have := top_xor x 0x82F63B78 h (by decide) (by assumption) (by decide); omega
  · omega

theorem down_back {x : Nat} : down (back x) = x := by
  unfold back
  split
  · unfold down
    rw [if_pos (by omega), show ((x ^^^ 0x82F63B78) * 2 + 1) / 2 = x ^^^ 0x82F63B78 by omega, xor_cancel]
  · rw [Nat.mul_comm]; exact down_two x

theorem back_down {x : Nat} (h : x < 4294967296) : back (down x) = x := by
  unfold down
  split
  · unfold back
    rw [if_pos (top_xor' _ _ (by omega) (by decide) (by decide)), xor_cancel]; omega
  · unfold back; rw [if_neg (by omega)]; omega

theorem iter_inv {f g : Nat → Nat} {B : Nat} (hf : ∀ x, x < B → f x < B) (h : ∀ x, x < B → g (f x) = x) (n : Nat) {x : Nat} (hx : x < B) : iter g n (iter f n x) = x := by
  induction n generalizing x with
  | zero => rfl
  | succ n ih =>
    rw [iter_succ' f]
    simp only [iter]
    rw [h _ (iter_lt hf n hx)]
    exact ih hx

theorem iter_inj {f g : Nat → Nat} {B : Nat} (hf : ∀ x, x < B → f x < B) (h : ∀ x, x < B → g (f x) = x) (n : Nat) {x y : Nat} (hx : x < B) (hy : y < B) (e : iter f n x = iter f n y) : x = y := by
  rw [← iter_inv hf h n hx, ← iter_inv hf h n hy, e]

/-- The program's step and the reference's step of CRC-32C. -/
def byte32 (r b : Nat) : Nat := iter down 8 (r ^^^ b)
theorem byte32_tab (r b : Nat) : byte32 r b = ((((r ^^^ b) / 16) ^^^ (tab[(r ^^^ b) % 16]?.getD 0)) / 16) ^^^ (tab[(((r ^^^ b) / 16) ^^^ (tab[(r ^^^ b) % 16]?.getD 0)) % 16]?.getD 0) := by
  unfold byte32
  rw [show (8 : Nat) = 4 + 4 from rfl, iter_add, down4 (iter down 4 _), down4]

def reg32 (r : Nat) (l : List UInt8) : Nat := l.foldl (fun r b => byte32 r b.toNat) r
def crc32 (l : List UInt8) : Nat := reg32 4294967295 l ^^^ 4294967295

theorem u8lt (b : UInt8) : b.toNat < 256 := b.toNat_lt
theorem byte32_lt {r b : Nat} (hr : r < 4294967296) (hb : b < 256) : byte32 r b < 4294967296 :=
  iter_lt (fun _ => down_lt) 8 (Nat.xor_lt_two_pow (n := 32) hr (by omega))
theorem reg32_lt (l : List UInt8) {r : Nat} (hr : r < 4294967296) : reg32 r l < 4294967296 := by
  induction l generalizing r with
  | nil => exact hr
  | cons b l ih => exact ih (byte32_lt hr (u8lt b))
theorem crc32_lt (l : List UInt8) : crc32 l < 4294967296 := Nat.xor_lt_two_pow (n := 32) (reg32_lt l (by decide)) (by decide)
theorem reg32_append (r : Nat) (a b : List UInt8) : reg32 r (a ++ b) = reg32 (reg32 r a) b := List.foldl_append

/-- A text as one number, the small end first. -/
def numLE : List UInt8 → Nat
  | [] => 0
  | b :: l => b.toNat + 256 * numLE l

theorem add_xor (b m k : Nat) (hb : b < 2 ^ k) : b + 2 ^ k * m = b ^^^ (2 ^ k * m) := by
  have h : 2 ^ k * m = m <<< k := by rw [Nat.shiftLeft_eq, Nat.mul_comm]
  have h1 := Nat.shiftLeft_add_eq_or_of_lt hb m
  rw [h, Nat.add_comm, h1]
  apply Nat.eq_of_testBit_eq
  intro i
  simp only [Nat.testBit_xor, Nat.testBit_or, Nat.testBit_shiftLeft]
  by_cases hi : k ≤ i
  · have : b.testBit i = false := Nat.testBit_lt_two_pow (Nat.lt_of_lt_of_le hb (Nat.pow_le_pow_right (by decide) hi))
    simp [hi, this]
  · simp [hi]

theorem down_pow (k m : Nat) : iter down k (2 ^ k * m) = m := by
  induction k generalizing m with
  | zero => simp [iter]
  | succ k ih => simp only [iter]; rw [show 2 ^ (k + 1) * m = 2 * (2 ^ k * m) by rw [Nat.pow_succ]; ac_rfl, down_two, ih]

theorem reg32_num (l : List UInt8) (r : Nat) : reg32 r l = iter down (8 * l.length) (r ^^^ numLE l) := by
  induction l generalizing r with
  | nil => simp [reg32, numLE, iter]
  | cons b l ih =>
    show reg32 (byte32 r b.toNat) l = _
    rw [ih, List.length_cons, show 8 * (l.length + 1) = 8 + 8 * l.length by omega, iter_add]
    congr 1
    simp only [numLE, byte32]
    rw [show (256 : Nat) = 2 ^ 8 from rfl, add_xor _ _ _ (u8lt b), ← Nat.xor_assoc, iter_xor down_xor, iter_xor down_xor, down_pow, ← iter_xor down_xor]

/-- Three texts of one length. -/
def xor3 : List UInt8 → List UInt8 → List UInt8 → List UInt8
  | a :: as, b :: bs, c :: cs => (a ^^^ b ^^^ c) :: xor3 as bs cs
  | _, _, _ => []

theorem xor6 (a b c d e f : Nat) : (a ^^^ b ^^^ c) ^^^ (d ^^^ e ^^^ f) = (a ^^^ d) ^^^ (b ^^^ e) ^^^ (c ^^^ f) := by ac_rfl

theorem byte32_xor3 (a b c x y z : Nat) : byte32 (a ^^^ b ^^^ c) (x ^^^ y ^^^ z) = byte32 a x ^^^ byte32 b y ^^^ byte32 c z := by
  unfold byte32
  rw [xor6, iter_xor down_xor, iter_xor down_xor]

theorem reg32_xor3 (a b c : List UInt8) (h1 : a.length = b.length) (h2 : b.length = c.length) (r s t : Nat) :
    reg32 (r ^^^ s ^^^ t) (xor3 a b c) = reg32 r a ^^^ reg32 s b ^^^ reg32 t c := by
  induction a generalizing b c r s t with
  | nil =>
    obtain rfl : b = [] := List.length_eq_zero_iff.1 h1.symm
    obtain rfl : c = [] := List.length_eq_zero_iff.1 h2.symm
    rfl
  | cons x a ih =>
    match b, c, h1, h2 with
    | y :: b, z :: c, h1, h2 =>
      show reg32 (byte32 (r ^^^ s ^^^ t) (x ^^^ y ^^^ z).toNat) (xor3 a b c) = _
      rw [UInt8.toNat_xor, UInt8.toNat_xor, byte32_xor3, ih b c (by simpa using h1) (by simpa using h2)]
      rfl

theorem crc32_xor3 (a b c : List UInt8) (h1 : a.length = b.length) (h2 : b.length = c.length) : crc32 (xor3 a b c) = crc32 a ^^^ crc32 b ^^^ crc32 c := by
  have h := reg32_xor3 a b c h1 h2 4294967295 4294967295 4294967295
  rw [show (4294967295 ^^^ 4294967295 ^^^ 4294967295 : Nat) = 4294967295 from rfl] at h
  unfold crc32
  rw [h]
  generalize reg32 4294967295 a = x, reg32 4294967295 b = y, reg32 4294967295 c = z
  rw [show (x ^^^ 4294967295) ^^^ (y ^^^ 4294967295) ^^^ (z ^^^ 4294967295) = (x ^^^ y ^^^ z) ^^^ (4294967295 ^^^ 4294967295 ^^^ 4294967295) by ac_rfl]
  rfl

/- CRC-16. -/
theorem up_lt {x : Nat} : up x < 65536 := by
  unfold up
  split
  · exact Nat.xor_lt_two_pow (n := 16) (by omega) (by decide)
  · omega

theorem dbl_xor (x y : Nat) : 2 * (x ^^^ y) % 65536 = (2 * x % 65536) ^^^ (2 * y % 65536) := by
  have h := Nat.shiftLeft_xor_distrib (a := x) (b := y) (i := 1)
  have g := Nat.xor_mod_two_pow (a := x <<< 1) (b := y <<< 1) (n := 16)
  rw [← h] at g
  simpa [Nat.shiftLeft_eq, Nat.mul_comm] using g

theorem top16 (x y : Nat) (hx : x < 65536) (hy : y < 65536) : 32768 ≤ x ^^^ y ↔ ¬ (32768 ≤ x ↔ 32768 ≤ y) := by
  have e1 : (x ^^^ y) / 32768 = (x / 32768) ^^^ (y / 32768) := by
    have := Nat.shiftRight_xor_distrib (a := x) (b := y) (i := 15); simpa [Nat.shiftRight_eq_div_pow] using this
  have hlt : x ^^^ y < 65536 := Nat.xor_lt_two_pow (n := 16) hx hy
  by_cases h1 : 32768 ≤ x <;> by_cases h2 : 32768 ≤ y
  · have a1 : x / 32768 = 1 := by omega
    have a2 : y / 32768 = 1 := by omega
    rw [a1, a2] at e1; have e1 : (x ^^^ y) / 32768 = 0 := e1; simp only [h1, h2]; simp; omega
  · have a1 : x / 32768 = 1 := by omega
    have a2 : y / 32768 = 0 := by omega
    rw [a1, a2] at e1; have e1 : (x ^^^ y) / 32768 = 1 := e1; simp only [h1, h2]; simp; omega
  · have a1 : x / 32768 = 0 := by omega
    have a2 : y / 32768 = 1 := by omega
    rw [a1, a2] at e1; have e1 : (x ^^^ y) / 32768 = 1 := e1; simp only [h1, h2]; simp; omega
  · have a1 : x / 32768 = 0 := by omega
    have a2 : y / 32768 = 0 := by omega
    rw [a1, a2] at e1; have e1 : (x ^^^ y) / 32768 = 0 := e1; simp only [h1, h2]; simp; omega

theorem up_xor (x y : Nat) (hx : x < 65536) (hy : y < 65536) : up (x ^^^ y) = up x ^^^ up y := by
  have ht := top16 x y hx hy
  unfold up
  rw [dbl_xor]
  by_cases h1 : 32768 ≤ x <;> by_cases h2 : 32768 ≤ y
  · rw [if_neg (by rw [ht]; simp [h1, h2]), if_pos h1, if_pos h2]; exact (xor_pp _ _ _).symm
  · rw [if_pos (by rw [ht]; simp [h1, h2]), if_pos h1, if_neg h2]; ac_rfl
  · rw [if_pos (by rw [ht]; simp [h1, h2]), if_neg h1, if_pos h2]; ac_rfl
  · rw [if_neg (by rw [ht]; simp [h1, h2]), if_neg h1, if_neg h2]

theorem up_iter_lt (n : Nat) {x : Nat} (h : x < 65536) : iter up n x < 65536 := iter_lt (fun _ _ => up_lt) n h
theorem up_iter_xor (n x y : Nat) (hx : x < 65536) (hy : y < 65536) : iter up n (x ^^^ y) = iter up n x ^^^ iter up n y := by
  induction n generalizing x y with
  | zero => rfl
  | succ n ih => simp only [iter]; rw [up_xor x y hx hy, ih _ _ up_lt up_lt]

def byte16 (r b : Nat) : Nat := iter up 8 (r ^^^ (b * 256))
def reg16 (r : Nat) (l : List UInt8) : Nat := l.foldl (fun r b => byte16 r b.toNat) r
theorem reg16_cons (r : Nat) (b : UInt8) (l : List UInt8) : reg16 r (b :: l) = reg16 (byte16 r b.toNat) l := by unfold reg16; rw [List.foldl_cons]
def crc16 (l : List UInt8) : Nat := reg16 65535 l
theorem byte16_lt {r b : Nat} (hr : r < 65536) (hb : b < 256) : byte16 r b < 65536 :=
  up_iter_lt 8 (Nat.xor_lt_two_pow (n := 16) hr (by omega))
theorem reg16_lt (l : List UInt8) {r : Nat} (hr : r < 65536) : reg16 r l < 65536 := by
  induction l generalizing r with
  | nil => exact hr
  | cons b l ih => rw [reg16_cons]; exact ih (byte16_lt hr (u8lt b))
theorem crc16_lt (l : List UInt8) : crc16 l < 65536 := reg16_lt l (by decide)
theorem reg16_append (r : Nat) (a b : List UInt8) : reg16 r (a ++ b) = reg16 (reg16 r a) b := List.foldl_append

theorem mul_xor (a b : Nat) : (a ^^^ b) * 256 = (a * 256) ^^^ (b * 256) := by
  have h := Nat.shiftLeft_xor_distrib (a := a) (b := b) (i := 8)
  simpa [Nat.shiftLeft_eq] using h

theorem byte16_xor3 (a b c x y z : Nat) (ha : a < 65536) (hb : b < 65536) (hc : c < 65536) (hx : x < 256) (hy : y < 256) (hz : z < 256) :
    byte16 (a ^^^ b ^^^ c) (x ^^^ y ^^^ z) = byte16 a x ^^^ byte16 b y ^^^ byte16 c z := by
  unfold byte16
  have h1 : a ^^^ (x * 256) < 65536 := Nat.xor_lt_two_pow (n := 16) ha (by omega)
  have h2 : b ^^^ (y * 256) < 65536 := Nat.xor_lt_two_pow (n := 16) hb (by omega)
  have h3 : c ^^^ (z * 256) < 65536 := Nat.xor_lt_two_pow (n := 16) hc (by omega)
  rw [mul_xor, mul_xor, xor6, up_iter_xor _ _ _ (Nat.xor_lt_two_pow (n := 16) h1 h2) h3, up_iter_xor _ _ _ h1 h2]

theorem reg16_xor3 (a b c : List UInt8) (h1 : a.length = b.length) (h2 : b.length = c.length) (r s t : Nat) (hr : r < 65536) (hs : s < 65536) (ht : t < 65536) :
    reg16 (r ^^^ s ^^^ t) (xor3 a b c) = reg16 r a ^^^ reg16 s b ^^^ reg16 t c := by
  induction a generalizing b c r s t with
  | nil =>
    obtain rfl : b = [] := List.length_eq_zero_iff.1 h1.symm
    obtain rfl : c = [] := List.length_eq_zero_iff.1 h2.symm
    rfl
  | cons x a ih =>
    match b, c, h1, h2 with
    | y :: b, z :: c, h1, h2 =>
      rw [show xor3 (x :: a) (y :: b) (z :: c) = (x ^^^ y ^^^ z) :: xor3 a b c from rfl, reg16_cons, reg16_cons, reg16_cons, reg16_cons, UInt8.toNat_xor, UInt8.toNat_xor, byte16_xor3 _ _ _ _ _ _ hr hs ht (u8lt x) (u8lt y) (u8lt z), ih b c (by simpa using h1) (by simpa using h2) _ _ _ (byte16_lt hr (u8lt x)) (byte16_lt hs (u8lt y)) (byte16_lt ht (u8lt z))]

theorem crc16_xor3 (a b c : List UInt8) (h1 : a.length = b.length) (h2 : b.length = c.length) : crc16 (xor3 a b c) = crc16 a ^^^ crc16 b ^^^ crc16 c := by
  have h := reg16_xor3 a b c h1 h2 65535 65535 65535 (by decide) (by decide) (by decide)
  rw [show (65535 ^^^ 65535 ^^^ 65535 : Nat) = 65535 from rfl] at h
  exact h

/- Texts of sums. -/
def text32 (x : Nat) : List UInt8 := [UInt8.ofNat (x / 16777216), UInt8.ofNat (x / 65536), UInt8.ofNat (x / 256), UInt8.ofNat x]
def text16 (x : Nat) : List UInt8 := [UInt8.ofNat (x / 256), UInt8.ofNat x]
theorem text32_inj {x y : Nat} (hx : x < 4294967296) (hy : y < 4294967296) (h : text32 x = text32 y) : x = y := by
  simp only [text32, List.cons.injEq, and_true] at h
  obtain ⟨h1, h2, h3, h4⟩ := h
  have f : ∀ a b : Nat, UInt8.ofNat a = UInt8.ofNat b → a % 256 = b % 256 := fun a b e => by simpa using congrArg UInt8.toNat e
  have h1 := f _ _ h1; have h2 := f _ _ h2; have h3 := f _ _ h3; have h4 := f _ _ h4
  omega
theorem text16_inj {x y : Nat} (hx : x < 65536) (hy : y < 65536) (h : text16 x = text16 y) : x = y := by
  simp only [text16, List.cons.injEq, and_true] at h
  obtain ⟨h1, h2⟩ := h
  have f : ∀ a b : Nat, UInt8.ofNat a = UInt8.ofNat b → a % 256 = b % 256 := fun a b e => by simpa using congrArg UInt8.toNat e
  have h1 := f _ _ h1; have h2 := f _ _ h2
  omega

/-- What a sealed text contains, and the error (k bytes of sum; T: the sum's text). -/
def openL (k : Nat) (T : List UInt8 → List UInt8) (l : List UInt8) : List UInt8 × Nat :=
  if l.length < k then ([], 11) else if T (l.take (l.length - k)) = l.drop (l.length - k) then (l.take (l.length - k), 0) else ([], 10)
def open32 (l : List UInt8) : List UInt8 × Nat := openL 4 (fun a => text32 (crc32 a)) l
def open16 (l : List UInt8) : List UInt8 × Nat := openL 2 (fun a => text16 (crc16 a)) l
def seal32 (l : List UInt8) : List UInt8 := l ++ text32 (crc32 l)
def seal16 (l : List UInt8) : List UInt8 := l ++ text16 (crc16 l)

/- Four bytes for a wanted sum. -/
def fixReg (s : List UInt8) (want : Nat) : Nat := iter back 32 (want ^^^ 4294967295) ^^^ reg32 4294967295 s
def text4 (x : Nat) : List UInt8 := [UInt8.ofNat x, UInt8.ofNat (x / 256), UInt8.ofNat (x / 65536), UInt8.ofNat (x / 16777216)]
/-- The four bytes, or the error for a text that is too long. -/
def fixL (l : List UInt8) (want : Nat) : List UInt8 × Nat := if 20000 < l.length then ([], 4) else (text4 (fixReg l want), 0)
theorem numLE_text4 {x : Nat} (hx : x < 4294967296) : numLE (text4 x) = x := by
  simp [numLE, text4]; omega
theorem fixReg_lt (s : List UInt8) {want : Nat} (hw : want < 4294967296) : fixReg s want < 4294967296 :=
  Nat.xor_lt_two_pow (n := 32) (iter_lt (fun _ => back_lt) 32 (Nat.xor_lt_two_pow (n := 32) hw (by decide))) (reg32_lt s (by decide))

theorem crc32_four (s y : List UInt8) (hy : y.length = 4) : crc32 (s ++ y) = iter down 32 (reg32 4294967295 s ^^^ numLE y) ^^^ 4294967295 := by
  unfold crc32
  rw [reg32_append, reg32_num y, hy]

theorem numLE_lt (l : List UInt8) : numLE l < 256 ^ l.length := by
  induction l with
  | nil => simp [numLE]
  | cons b l ih =>
    have := u8lt b
    simp only [numLE, List.length_cons, Nat.pow_succ]
    omega

theorem crc32_fix (s y : List UInt8) (hy : y.length = 4) {want : Nat} (hw : want < 4294967296) :
    crc32 (s ++ y) = want ↔ numLE y = fixReg s want := by
  rw [crc32_four s y hy]
  have hr : reg32 4294967295 s < 4294967296 := reg32_lt s (by decide)
  have hn : numLE y < 4294967296 := by have := numLE_lt y; rw [hy] at this; simpa using this
  have hx : reg32 4294967295 s ^^^ numLE y < 4294967296 := Nat.xor_lt_two_pow (n := 32) hr hn
  have hwf : want ^^^ 4294967295 < 4294967296 := Nat.xor_lt_two_pow (n := 32) hw (by decide)
  constructor
  · intro h
    have e : iter down 32 (reg32 4294967295 s ^^^ numLE y) = want ^^^ 4294967295 := by rw [← h, xor_cancel]
    unfold fixReg
    rw [← e, iter_inv (fun _ => down_lt) (fun _ => back_down) 32 hx, Nat.xor_comm _ (numLE y), xor_cancel]
  · intro h
    rw [h]
    unfold fixReg
    rw [Nat.xor_comm (reg32 _ s), xor_cancel, iter_inv (B := 4294967296) (fun _ => back_lt) (fun _ _ => down_back) 32 hwf, xor_cancel]

theorem numLE_inj {a b : List UInt8} (hl : a.length = b.length) (h : numLE a = numLE b) : a = b := by
  induction a generalizing b with
  | nil => exact (List.length_eq_zero_iff.1 hl.symm).symm
  | cons x a ih =>
    match b, hl with
    | y :: b, hl =>
      simp only [numLE] at h
      have := u8lt x; have := u8lt y
      have e1 : x.toNat = y.toNat := by omega
      have e2 : numLE a = numLE b := by omega
      rw [UInt8.toNat_inj.1 e1, ih (by simpa using hl) e2]

/-- Other bytes: the pattern's bytes laid over the four. -/
def over4 (y : List UInt8) (o : Nat) : List UInt8 := match y with
  | [a, b, c, d] => [a ^^^ UInt8.ofNat o, b ^^^ UInt8.ofNat (o / 256), c ^^^ UInt8.ofNat (o / 65536), d ^^^ UInt8.ofNat (o / 16777216)]
  | _ => []

theorem xor_split (a b m n : Nat) (ha : a < 256) (hb : b < 256) : (a + 256 * m) ^^^ (b + 256 * n) = (a ^^^ b) + 256 * (m ^^^ n) := by
  have hab : a ^^^ b < 2 ^ 8 := Nat.xor_lt_two_pow (n := 8) ha hb
  rw [show (256 : Nat) = 2 ^ 8 from rfl, add_xor a m 8 ha, add_xor b n 8 hb, add_xor _ _ 8 hab]
  have h : 2 ^ 8 * (m ^^^ n) = (2 ^ 8 * m) ^^^ (2 ^ 8 * n) := by
    have := mul_xor m n
    simpa [Nat.mul_comm] using this
  rw [h]; ac_rfl

theorem numLE_over4 (y : List UInt8) (hy : y.length = 4) {o : Nat} (ho : o < 4294967296) : numLE (over4 y o) = numLE y ^^^ o := by
  match y, hy with
  | [a, b, c, d], _ =>
    have h := numLE_text4 ho
    conv => rhs; rw [← h]
    simp only [numLE, over4, text4]
    rw [xor_split _ _ _ _ (u8lt _) (u8lt _), xor_split _ _ _ _ (u8lt _) (u8lt _), xor_split _ _ _ _ (u8lt _) (u8lt _), xor_split _ _ _ _ (u8lt _) (u8lt _)]
    simp only [UInt8.toNat_xor, Nat.xor_zero]

theorem crc32_only (s y : List UInt8) (hy : y.length = 4) {want o : Nat} (hw : want < 4294967296) (ho : o < 4294967296) (h : crc32 (s ++ y) = want) :
    crc32 (s ++ over4 y o) = want ↔ o = 0 := by
  have hl : (over4 y o).length = 4 := by match y, hy with | [a, b, c, d], _ => rfl
  rw [crc32_fix s _ hl hw, numLE_over4 y hy ho, ← (crc32_fix s y hy hw).1 h]
  constructor
  · intro e
    have : (numLE y ^^^ o) ^^^ numLE y = 0 := by rw [e, Nat.xor_self]
    rwa [Nat.xor_comm (numLE y) o, xor_cancel] at this
  · rintro rfl; exact Nat.xor_zero _

theorem fix_sum (s : List UInt8) {want : Nat} (hw : want < 4294967296) : crc32 (s ++ text4 (fixReg s want)) = want :=
  (crc32_fix s _ rfl hw).2 (numLE_text4 (fixReg_lt s hw))

/- Joined sums. -/
def zeros32 (n x : Nat) : Nat := iter (fun a => byte32 a 0) n x
def zeros16 (n x : Nat) : Nat := iter (fun a => byte16 a 0) n x
theorem zeros32_down (n x : Nat) : zeros32 n x = iter down (8 * n) x := by
  unfold zeros32
  induction n generalizing x with
  | zero => rfl
  | succ n ih => simp only [iter]; rw [ih, show 8 * (n + 1) = 8 + 8 * n by omega, iter_add]; simp [byte32]
theorem zeros16_up (n x : Nat) : zeros16 n x = iter up (8 * n) x := by
  unfold zeros16
  induction n generalizing x with
  | zero => rfl
  | succ n ih => simp only [iter]; rw [ih, show 8 * (n + 1) = 8 + 8 * n by omega, iter_add]; simp [byte16]
def join32 (a b n : Nat) : Nat := zeros32 n a ^^^ b
def join16 (a b n : Nat) : Nat := zeros16 n (a ^^^ 65535) ^^^ b

theorem reg32_affine (l : List UInt8) (r : Nat) : reg32 (r ^^^ 4294967295) l = zeros32 l.length r ^^^ reg32 4294967295 l := by
  rw [reg32_num, reg32_num, zeros32_down, ← iter_xor down_xor]; congr 1; ac_rfl

theorem crc32_join (a b : List UInt8) : crc32 (a ++ b) = join32 (crc32 a) (crc32 b) b.length := by
  unfold join32
  have h := reg32_affine b (crc32 a)
  unfold crc32 at *
  rw [xor_cancel] at h
  rw [reg32_append, h, Nat.xor_assoc]

theorem reg16_affine (l : List UInt8) (r s : Nat) (hr : r < 65536) (hs : s < 65536) : reg16 (r ^^^ s) l = iter up (8 * l.length) r ^^^ reg16 s l := by
  induction l generalizing r s with
  | nil => rfl
  | cons b l ih =>
    have hb := u8lt b
    have h1 : s ^^^ (b.toNat * 256) < 65536 := Nat.xor_lt_two_pow (n := 16) hs (by omega)
    have e : byte16 (r ^^^ s) b.toNat = iter up 8 r ^^^ byte16 s b.toNat := by
      unfold byte16
      rw [Nat.xor_assoc, up_iter_xor 8 _ _ hr h1]
    rw [reg16_cons, reg16_cons, e, ih _ _ (up_iter_lt 8 hr) (byte16_lt hs hb), List.length_cons, show 8 * (l.length + 1) = 8 + 8 * l.length by omega, iter_add]

theorem crc16_join (a b : List UInt8) : crc16 (a ++ b) = join16 (crc16 a) (crc16 b) b.length := by
  unfold join16
  have hx : crc16 a ^^^ 65535 < 65536 := Nat.xor_lt_two_pow (n := 16) (crc16_lt a) (by decide)
  have h := reg16_affine b (crc16 a ^^^ 65535) 65535 hx (by decide)
  rw [xor_cancel] at h
  rw [zeros16_up]
  unfold crc16 at *
  rw [reg16_append, h]

/- A matrix of bits. -/
/-- 'times': the xor of the columns of the bits that are set, the first n of them. -/
def timesN (m : Nat → Nat) (x : Nat) : Nat → Nat
  | 0 => 0
  | n + 1 => if x / 2 ^ n % 2 = 1 then timesN m x n ^^^ m n else timesN m x n
def times (m : Nat → Nat) (x : Nat) : Nat := timesN m x 32

/-- m is the matrix of f on the first n bits. -/
def MatOf (m : Nat → Nat) (f : Nat → Nat) (n : Nat) : Prop := ∀ i, i < n → m i = f (2 ^ i)

theorem timesN_mat (m f : Nat → Nat) (B : Nat) (h0 : f 0 = 0) (hf : ∀ x y, x < 2 ^ B → y < 2 ^ B → f (x ^^^ y) = f x ^^^ f y) (hm : MatOf m f B) (x n : Nat) (hn : n ≤ B) :
    timesN m x n = f (x % 2 ^ n) := by
  induction n with
  | zero => simp [timesN, h0, Nat.mod_one]
  | succ n ih =>
    have hlt : x % 2 ^ n < 2 ^ n := Nat.mod_lt _ (Nat.two_pow_pos n)
    have hle : 2 ^ n ≤ 2 ^ B := Nat.pow_le_pow_right (by decide) (by omega)
    have hlt' : 2 ^ n < 2 ^ B := Nat.pow_lt_pow_right (by decide) (by omega)
    have e : x % 2 ^ (n + 1) = x % 2 ^ n + 2 ^ n * (x / 2 ^ n % 2) := by rw [Nat.pow_succ, Nat.mod_mul]
    unfold timesN
    rw [ih (by omega)]
    by_cases hb : x / 2 ^ n % 2 = 1
    · rw [if_pos hb, e, hb, add_xor _ _ _ hlt, Nat.mul_one, hf _ _ (by omega) hlt', hm n (by omega)]
    · have hb0 : x / 2 ^ n % 2 = 0 := by omega
      rw [if_neg hb, e, hb0]; simp

theorem timesN_more (m : Nat → Nat) (x n k : Nat) (hx : x < 2 ^ n) : timesN m x (n + k) = timesN m x n := by
  induction k with
  | zero => rfl
  | succ k ih =>
    show timesN m x (n + k + 1) = _
    have : x / 2 ^ (n + k) = 0 := Nat.div_eq_of_lt (Nat.lt_of_lt_of_le hx (Nat.pow_le_pow_right (by decide) (by omega)))
    rw [timesN, this, if_neg (by simp), ih]

/-- 'times' of the matrix of f is f. -/
theorem times_mat (m f : Nat → Nat) (B : Nat) (hB : B ≤ 32) (h0 : f 0 = 0) (hf : ∀ x y, x < 2 ^ B → y < 2 ^ B → f (x ^^^ y) = f x ^^^ f y) (hm : MatOf m f B) {x : Nat} (hx : x < 2 ^ B) :
    times m x = f x := by
  unfold times
  obtain ⟨k, hk⟩ : ∃ k, 32 = B + k := ⟨32 - B, by omega⟩
  rw [hk, timesN_more _ _ _ _ hx, timesN_mat m f B h0 hf hm x B (Nat.le_refl _), Nat.mod_eq_of_lt hx]

/-- 'zeros': n bytes 0 by the matrix of one. -/
def zerosM : Nat → (Nat → Nat) → Nat → Nat → Nat
  | 0, _, x, _ => x
  | k + 1, m, x, n => if n = 0 then x else zerosM k (fun i => times m (m i)) (if n % 2 = 1 then times m x else x) (n / 2)

theorem iter_sq (f : Nat → Nat) (n x : Nat) : iter (fun a => f (f a)) n x = iter f (2 * n) x := by
  induction n generalizing x with
  | zero => rfl
  | succ n ih => rw [show 2 * (n + 1) = 2 * n + 1 + 1 by omega]; simp only [iter]; exact ih _

theorem zerosM_eq (B : Nat) (hB : B ≤ 32) (k : Nat) : ∀ (m f : Nat → Nat) (x n : Nat), f 0 = 0 → (∀ x, x < 2 ^ B → f x < 2 ^ B) →
    (∀ x y, x < 2 ^ B → y < 2 ^ B → f (x ^^^ y) = f x ^^^ f y) → MatOf m f B → x < 2 ^ B → n < 2 ^ k → zerosM k m x n = iter f n x := by
  induction k with
  | zero => intro m f x n _ _ _ _ _ hn; obtain rfl : n = 0 := by omega
            rfl
  | succ k ih =>
    intro m f x n h0 hlt hf hm hx hn
    unfold zerosM
    by_cases hz : n = 0
    · rw [if_pos hz, hz]; rfl
    · rw [if_neg hz, ih _ (fun a => f (f a)) _ _ (by simp [h0]) (fun x hx => hlt _ (hlt _ hx)) (fun x y hx hy => by rw [hf _ _ hx hy, hf _ _ (hlt _ hx) (hlt _ hy)])
        (fun i hi => by rw [hm i hi, times_mat m f B hB h0 hf hm (hlt _ (Nat.pow_lt_pow_right (by decide) hi))])
        (by split; · rw [times_mat m f B hB h0 hf hm hx]; exact hlt _ hx
            · exact hx)
        (by rw [Nat.pow_succ] at hn; omega), iter_sq]
      by_cases hp : n % 2 = 1
      · rw [if_pos hp, times_mat m f B hB h0 hf hm hx]
        have e : n = 2 * (n / 2) + 1 := by omega
        conv => rhs; rw [e]
        rfl
      · rw [if_neg hp]
        have e : n = 2 * (n / 2) := by omega
        conv => rhs; rw [e]

theorem zeros32_mat {x n : Nat} (hx : x < 4294967296) (hn : n < 32768) (m : Nat → Nat) (hm : ∀ i, i < 32 → m i = byte32 (2 ^ i) 0) : zerosM 15 m x n = zeros32 n x := by
  refine zerosM_eq 32 (Nat.le_refl _) 15 m (fun a => byte32 a 0) x n ?_ (fun x hx => byte32_lt hx (by decide)) (fun x y _ _ => ?_) hm hx hn
  · simp only [byte32, Nat.xor_zero]; exact iter_zero_fix rfl 8
  · simp only [byte32, Nat.xor_zero]; exact iter_xor down_xor 8 x y

theorem zeros16_mat {x n : Nat} (hx : x < 65536) (hn : n < 32768) (m : Nat → Nat) (hm : ∀ i, i < 16 → m i = byte16 (2 ^ i) 0) : zerosM 15 m x n = zeros16 n x := by
  refine zerosM_eq 16 (by decide) 15 m (fun a => byte16 a 0) x n ?_ (fun x hx => byte16_lt hx (by decide)) (fun x y hx hy => ?_) hm hx hn
  · simp only [byte16, Nat.xor_zero, Nat.zero_mul]; exact iter_zero_fix (by decide) 8
  · simp only [byte16, Nat.xor_zero, Nat.zero_mul]; exact up_iter_xor 8 x y hx hy

/- Changed bits. -/
def flipK (l : List UInt8) (k : Nat) : List UInt8 := l.set (k / 8) (l.getD (k / 8) 0 ^^^ UInt8.ofNat (2 ^ (k % 8)))
theorem flipK_length (l : List UInt8) (k : Nat) : (flipK l k).length = l.length := by simp [flipK]

theorem numLE_set (l : List UInt8) (j : Nat) (hj : j < l.length) (c : UInt8) : numLE (l.set j (l.getD j 0 ^^^ c)) = numLE l ^^^ (c.toNat * 256 ^ j) := by
  induction l generalizing j with
  | nil => simp at hj
  | cons b l ih =>
    cases j with
    | zero =>
      simp only [List.set_cons_zero, List.getD_cons_zero, numLE, Nat.pow_zero, Nat.mul_one, UInt8.toNat_xor]
      have h := xor_split b.toNat c.toNat (numLE l) 0 (u8lt b) (u8lt c)
      rw [Nat.mul_zero, Nat.add_zero, Nat.xor_zero] at h
      exact h.symm
    | succ j =>
      simp only [List.set_cons_succ, List.getD_cons_succ, numLE]
      rw [ih j (by simpa using hj)]
      have h := xor_split b.toNat 0 (numLE l) (c.toNat * 256 ^ j) (u8lt b) (by decide)
      rw [Nat.zero_add, Nat.xor_zero] at h
      rw [← h, Nat.pow_succ]
      congr 1
      ac_rfl

theorem numLE_flipK (l : List UInt8) (k : Nat) (hk : k / 8 < l.length) : numLE (flipK l k) = numLE l ^^^ 2 ^ k := by
  unfold flipK
  rw [numLE_set l _ hk]
  congr 1
  have h8 : k % 8 < 8 := Nat.mod_lt _ (by decide)
  have h1 : 2 ^ (k % 8) < 256 := by
    have := Nat.pow_lt_pow_right (a := 2) (by decide) h8; simpa using this
  rw [UInt8.toNat_ofNat', Nat.mod_eq_of_lt h1, show (256 : Nat) = 2 ^ 8 from rfl, ← Nat.pow_mul, ← Nat.pow_add]
  congr 1
  omega

/-- The text after n rounds. -/
def flipsN (l : List UInt8) (k p : Nat) : Nat → List UInt8
  | 0 => l
  | n + 1 => if p / 2 ^ n % 2 = 1 then flipK (flipsN l k p n) (k + n) else flipsN l k p n
theorem flipsN_length (l : List UInt8) (k p n : Nat) : (flipsN l k p n).length = l.length := by
  induction n with
  | zero => rfl
  | succ n ih => unfold flipsN; split
                 · rw [flipK_length, ih]
                 · exact ih

theorem numLE_flipsN (l : List UInt8) (k p n : Nat) (h : k + n ≤ 8 * l.length) : numLE (flipsN l k p n) = numLE l ^^^ (2 ^ k * (p % 2 ^ n)) := by
  induction n with
  | zero => simp [flipsN, Nat.mod_one]
  | succ n ih =>
    have ih := ih (by omega)
    have e : p % 2 ^ (n + 1) = p % 2 ^ n + 2 ^ n * (p / 2 ^ n % 2) := by rw [Nat.pow_succ, Nat.mod_mul]
    have hlt : p % 2 ^ n < 2 ^ n := Nat.mod_lt _ (Nat.two_pow_pos n)
    unfold flipsN
    by_cases hb : p / 2 ^ n % 2 = 1
    · rw [if_pos hb, numLE_flipK _ _ (by rw [flipsN_length]; omega), ih, e, hb, Nat.mul_one, Nat.mul_add, ← Nat.pow_add, Nat.xor_assoc]
      congr 1
      have hl2 : 2 ^ k * (p % 2 ^ n) < 2 ^ (k + n) := by rw [Nat.pow_add]; exact Nat.mul_lt_mul_of_pos_left hlt (Nat.two_pow_pos k)
      have := add_xor _ 1 _ hl2
      rw [Nat.mul_one] at this
      exact this.symm
    · have hb0 : p / 2 ^ n % 2 = 0 := by omega
      rw [if_neg hb, ih, e, hb0, Nat.mul_zero, Nat.add_zero]

theorem numLE_append (a b : List UInt8) : numLE (a ++ b) = numLE a + 2 ^ (8 * a.length) * numLE b := by
  induction a with
  | nil => simp [numLE]
  | cons x a ih =>
    have e : 2 ^ (8 * (a.length + 1)) = 256 * 2 ^ (8 * a.length) := by rw [show 8 * (a.length + 1) = 8 + 8 * a.length by omega, Nat.pow_add]
    rw [List.cons_append, numLE, ih, numLE, List.length_cons, e, Nat.mul_add, Nat.mul_assoc]; omega

theorem numLE_lt' (l : List UInt8) : numLE l < 2 ^ (8 * l.length) := by
  have := numLE_lt l; rwa [show (256 : Nat) = 2 ^ 8 from rfl, ← Nat.pow_mul] at this

theorem xor_eq_zero {a b : Nat} (h : a ^^^ b = 0) : a = b := by
  have : (a ^^^ b) ^^^ b = b := by rw [h, Nat.zero_xor]
  rwa [xor_cancel] at this

/-- What differs within 32 bits has another sum. -/
theorem crc32_burst (a b : List UInt8) (hl : b.length = a.length) (k q : Nat) (hq : q < 4294967296) (hk : k ≤ 8 * a.length) (hab : numLE b = numLE a ^^^ (2 ^ k * q)) (h : crc32 b = crc32 a) : q = 0 := by
  unfold crc32 at h
  have h1 : reg32 4294967295 b = reg32 4294967295 a := by
    have := congrArg (· ^^^ 4294967295) h
    simpa only [xor_cancel] using this
  rw [reg32_num, reg32_num, hl, hab, ← Nat.xor_assoc, iter_xor down_xor (8 * a.length) (4294967295 ^^^ numLE a)] at h1
  have h2 : iter down (8 * a.length) (2 ^ k * q) = 0 := by
    generalize iter down (8 * a.length) (4294967295 ^^^ numLE a) = x at h1
    generalize iter down (8 * a.length) (2 ^ k * q) = y at h1
    have : (x ^^^ y) ^^^ x = 0 := by rw [h1, Nat.xor_self]
    rwa [Nat.xor_comm x y, xor_cancel] at this
  obtain ⟨j, hj⟩ : ∃ j, 8 * a.length = k + j := ⟨8 * a.length - k, by omega⟩
  rw [hj, iter_add, down_pow] at h2
  refine iter_inj (B := 4294967296) (fun _ => down_lt) (fun _ => back_down) j hq (by decide) ?_
  rw [h2, iter_zero_fix rfl]

theorem crc32_flips (s : List UInt8) (k p n : Nat) (hn : n ≤ 32) (hk : k + n ≤ 8 * s.length) (hne : flipsN (s ++ text32 (crc32 s)) k p n ≠ s ++ text32 (crc32 s)) :
    text32 (crc32 ((flipsN (s ++ text32 (crc32 s)) k p n).take s.length)) ≠ (flipsN (s ++ text32 (crc32 s)) k p n).drop s.length := by
  have hq : p % 2 ^ n < 4294967296 := Nat.lt_of_lt_of_le (Nat.mod_lt _ (Nat.two_pow_pos n)) (by have := Nat.pow_le_pow_right (n := 2) (by decide) hn; simpa using this)
  have hlen := flipsN_length (s ++ text32 (crc32 s)) k p n
  have hnum := numLE_flipsN (s ++ text32 (crc32 s)) k p n (by simp; omega)
  generalize flipsN (s ++ text32 (crc32 s)) k p n = t at *
  have hD : 2 ^ k * (p % 2 ^ n) < 2 ^ (8 * s.length) := by
    refine Nat.lt_of_lt_of_le (Nat.mul_lt_mul_of_pos_left (Nat.mod_lt _ (Nat.two_pow_pos n)) (Nat.two_pow_pos k)) ?_
    rw [← Nat.pow_add]; exact Nat.pow_le_pow_right (by decide) hk
  have hq0 : p % 2 ^ n ≠ 0 := by
    intro h0
    rw [h0, Nat.mul_zero, Nat.xor_zero] at hnum
    exact hne (numLE_inj hlen hnum)
  have hlt : (t.take s.length).length = s.length := by simp at hlen; simp; omega
  have hcat : numLE t = numLE (t.take s.length) + 2 ^ (8 * s.length) * numLE (t.drop s.length) := by
    have := numLE_append (t.take s.length) (t.drop s.length)
    rwa [List.take_append_drop, hlt] at this
  have hs := numLE_append s (text32 (crc32 s))
  have hb1 : numLE (t.take s.length) < 2 ^ (8 * s.length) := by have := numLE_lt' (t.take s.length); rwa [hlt] at this
  have hb2 := numLE_lt' s
  have hxs : numLE s ^^^ (2 ^ k * (p % 2 ^ n)) < 2 ^ (8 * s.length) := Nat.xor_lt_two_pow hb2 hD
  have hfin : numLE t = (numLE s ^^^ (2 ^ k * (p % 2 ^ n))) + 2 ^ (8 * s.length) * numLE (text32 (crc32 s)) := by
    rw [hnum, hs, add_xor _ _ _ hb2, add_xor _ _ _ hxs]; ac_rfl
  have hpos := Nat.two_pow_pos (8 * s.length)
  have h1 : numLE (t.take s.length) = numLE s ^^^ (2 ^ k * (p % 2 ^ n)) := by
    have e : numLE t % 2 ^ (8 * s.length) = numLE (t.take s.length) := by rw [hcat, Nat.add_mul_mod_self_left, Nat.mod_eq_of_lt hb1]
    rw [← e, hfin, Nat.add_mul_mod_self_left, Nat.mod_eq_of_lt hxs]
  have h2 : numLE (t.drop s.length) = numLE (text32 (crc32 s)) := by
    have e : numLE t / 2 ^ (8 * s.length) = numLE (t.drop s.length) := by rw [hcat, Nat.add_mul_div_left _ _ hpos, Nat.div_eq_of_lt hb1, Nat.zero_add]
    rw [← e, hfin, Nat.add_mul_div_left _ _ hpos, Nat.div_eq_of_lt hxs, Nat.zero_add]
  have h3 : t.drop s.length = text32 (crc32 s) := numLE_inj (by simp at hlen; simp [hlen, text32]) h2
  rw [h3]
  intro h
  exact hq0 (crc32_burst s (t.take s.length) hlt k _ hq (by omega) h1 (text32_inj (crc32_lt _) (crc32_lt _) h))

/- CRC-16: the whole text as one number, the great end first. -/
def remn : Nat → Nat → Nat
  | 0, _ => 0
  | n + 1, c => up (remn n (c / 2)) ^^^ (c % 2)
theorem remn_lt (n c : Nat) : remn n c < 65536 := by
  cases n with
  | zero => simp [remn]
  | succ n => exact Nat.xor_lt_two_pow (n := 16) up_lt (by omega)
theorem remn_xor (n a b : Nat) : remn n (a ^^^ b) = remn n a ^^^ remn n b := by
  induction n generalizing a b with
  | zero => simp [remn]
  | succ n ih =>
    have hx : (a ^^^ b) / 2 = (a / 2) ^^^ (b / 2) := by
      have := Nat.shiftRight_xor_distrib (a := a) (b := b) (i := 1); simpa [Nat.shiftRight_succ] using this
    have hm : (a ^^^ b) % 2 = (a % 2) ^^^ (b % 2) := by
      have := Nat.xor_mod_two_pow (a := a) (b := b) (n := 1); simpa using this
    simp only [remn]
    rw [hx, hm, ih, up_xor _ _ (remn_lt _ _) (remn_lt _ _)]
    ac_rfl

theorem up_small {x : Nat} (h : x < 32768) : up x = 2 * x := by unfold up; rw [if_neg (by omega)]; omega
theorem two_xor (b : Nat) : (2 * (b / 2)) ^^^ (b % 2) = b := by
  have := add_xor (b % 2) (b / 2) 1 (Nat.mod_lt _ (by decide))
  rw [Nat.pow_one] at this
  rw [Nat.xor_comm, ← this]; omega

theorem remn_more (n k : Nat) (hk : k ≤ 16) (b m : Nat) (hb : b < 2 ^ k) : remn (n + k) (b + 2 ^ k * m) = iter up k (remn n m) ^^^ b := by
  induction k generalizing b with
  | zero => obtain rfl : b = 0 := by omega
            simp [iter]
  | succ k ih =>
    have h2 : 2 ^ (k + 1) * m = 2 * (2 ^ k * m) := by rw [Nat.pow_succ]; ac_rfl
    have hb' : b / 2 < 2 ^ k := by rw [Nat.pow_succ] at hb; omega
    have hs : b / 2 < 32768 := Nat.lt_of_lt_of_le hb' (by have := Nat.pow_le_pow_right (n := 2) (by decide) (show k ≤ 15 by omega); simpa using this)
    show up (remn (n + k) ((b + 2 ^ (k + 1) * m) / 2)) ^^^ ((b + 2 ^ (k + 1) * m) % 2) = _
    rw [h2, show (b + 2 * (2 ^ k * m)) / 2 = b / 2 + 2 ^ k * m by omega, show (b + 2 * (2 ^ k * m)) % 2 = b % 2 by omega, ih (by omega) _ hb',
      up_xor _ _ (up_iter_lt k (remn_lt _ _)) (by omega), up_small hs, Nat.xor_assoc, two_xor, iter_succ']

theorem remn_small (j q : Nat) (h1 : q < 2 ^ j) (h2 : q < 65536) : remn j q = q := by
  induction j generalizing q with
  | zero => obtain rfl : q = 0 := by omega
            rfl
  | succ j ih =>
    simp only [remn]
    rw [Nat.pow_succ] at h1
    rw [ih _ (by omega) (by omega), up_small (by omega), two_xor]

theorem remn_shift (j k q : Nat) : remn (j + k) (2 ^ k * q) = iter up k (remn j q) := by
  induction k generalizing q with
  | zero => simp [iter]
  | succ k ih =>
    show up (remn (j + k) (2 ^ (k + 1) * q / 2)) ^^^ (2 ^ (k + 1) * q % 2) = _
    have h2 : 2 ^ (k + 1) * q = 2 * (2 ^ k * q) := by rw [Nat.pow_succ]; ac_rfl
    rw [h2, show 2 * (2 ^ k * q) / 2 = 2 ^ k * q by omega, show 2 * (2 ^ k * q) % 2 = 0 by omega, ih, Nat.xor_zero, iter_succ']

theorem up_zero {x : Nat} (hx : x < 65536) (h : up x = 0) : x = 0 := by
  unfold up at h
  split at h
  · have e := xor_eq_zero h
    omega
  · omega
theorem iter_up_zero (k : Nat) {x : Nat} (hx : x < 65536) (h : iter up k x = 0) : x = 0 := by
  induction k generalizing x with
  | zero => exact h
  | succ k ih => exact up_zero hx (ih up_lt h)

theorem reg16_snoc (r : Nat) (l : List UInt8) (b : UInt8) : reg16 r (l ++ [b]) = byte16 (reg16 r l) b.toNat := by
  rw [reg16_append, reg16_cons, show ∀ x, reg16 x [] = x from fun _ => by unfold reg16; rw [List.foldl_nil]]

theorem up8_byte {b : Nat} (hb : b < 256) : iter up 8 b = b * 256 := by
  have e1 : up b = 2 * b := up_small (by omega)
  have e2 : up (2 * b) = 4 * b := by rw [up_small (by omega)]; omega
  have e3 : up (4 * b) = 8 * b := by rw [up_small (by omega)]; omega
  have e4 : up (8 * b) = 16 * b := by rw [up_small (by omega)]; omega
  have e5 : up (16 * b) = 32 * b := by rw [up_small (by omega)]; omega
  have e6 : up (32 * b) = 64 * b := by rw [up_small (by omega)]; omega
  have e7 : up (64 * b) = 128 * b := by rw [up_small (by omega)]; omega
  have e8 : up (128 * b) = 256 * b := by rw [up_small (by omega)]; omega
  simp only [iter]
  rw [e1, e2, e3, e4, e5, e6, e7, e8, Nat.mul_comm]

theorem reg16_rem (m : List UInt8) : reg16 0 m.reverse = iter up 16 (remn (8 * m.length) (numLE m)) := by
  induction m with
  | nil => simp [reg16, remn, iter_zero_fix (show up 0 = 0 by decide)]
  | cons b m ih =>
    have hb := u8lt b
    rw [List.reverse_cons, reg16_snoc, ih, numLE, List.length_cons, show 8 * (m.length + 1) = 8 * m.length + 8 by omega]
    rw [show (256 : Nat) = 2 ^ 8 from rfl, remn_more _ 8 (by decide) _ _ hb]
    unfold byte16
    have h1 := remn_lt (8 * m.length) (numLE m)
    rw [← up8_byte hb, up_iter_xor 8 _ _ (up_iter_lt 16 h1) (up_iter_lt 8 (by omega)), up_iter_xor 16 _ _ (up_iter_lt 8 h1) (by omega), ← iter_add, ← iter_add, ← iter_add]

/-- The sealed text's number (u: the sealed text from its end): what is left of it hangs on its length alone. -/
theorem rem_sealed (m : List UInt8) (t : Nat) (ht : t < 65536) : remn (8 * m.length + 16) (t + 2 ^ 16 * numLE m) = reg16 0 m.reverse ^^^ t := by
  rw [remn_more _ 16 (by decide) _ _ ht, reg16_rem]

theorem crc16_affine (m : List UInt8) : crc16 m = iter up (8 * m.length) 65535 ^^^ reg16 0 m := by
  have := reg16_affine m 65535 0 (by decide) (by decide)
  rw [Nat.xor_zero] at this
  exact this

theorem numLE_text16_rev {x : Nat} (hx : x < 65536) : numLE (text16 x).reverse = x := by
  simp [numLE, text16]; omega

/-- A text whose sum is sealed behind it, read from the end. -/
def Sealed (u : List UInt8) : Prop := text16 (crc16 (u.reverse.take (u.length - 2))) = u.reverse.drop (u.length - 2)

theorem sealed_rem (u : List UInt8) (h2 : 2 ≤ u.length) (h : Sealed u) : remn (8 * u.length) (numLE u) = iter up (8 * (u.length - 2)) 65535 := by
  unfold Sealed at h
  have hu : u = (u.reverse.drop (u.length - 2)).reverse ++ (u.reverse.take (u.length - 2)).reverse := by
    rw [← List.reverse_append, List.take_append_drop, List.reverse_reverse]
  have hl : (u.reverse.take (u.length - 2)).length = u.length - 2 := by simp
  generalize u.reverse.take (u.length - 2) = a at *
  rw [← h] at hu
  have hn : numLE u = crc16 a + 2 ^ 16 * numLE a.reverse := by
    rw [hu, numLE_append, numLE_text16_rev (crc16_lt a)]; rfl
  have e : 8 * u.length = 8 * a.reverse.length + 16 := by rw [List.length_reverse, hl]; omega
  rw [e, hn, rem_sealed _ _ (crc16_lt a), List.reverse_reverse, crc16_affine, Nat.xor_comm, xor_cancel, hl]

/-- A burst of at most 16 bits in a sealed text is found. -/
theorem crc16_flips (u : List UInt8) (h2 : 2 ≤ u.length) (hu : Sealed u) (k p n : Nat) (hn : n ≤ 16) (hk : k + n ≤ 8 * u.length) (hne : flipsN u k p n ≠ u) : ¬ Sealed (flipsN u k p n) := by
  intro hs
  have hlen := flipsN_length u k p n
  have h1 := sealed_rem _ (by omega) hs
  have h2' := sealed_rem u h2 hu
  rw [hlen, ← h2', numLE_flipsN u k p n hk, remn_xor] at h1
  have h3 : remn (8 * u.length) (2 ^ k * (p % 2 ^ n)) = 0 := by
    generalize remn (8 * u.length) (numLE u) = x at h1
    generalize remn (8 * u.length) (2 ^ k * (p % 2 ^ n)) = y at h1
    have : (x ^^^ y) ^^^ x = 0 := by rw [h1, Nat.xor_self]
    rwa [Nat.xor_comm x y, xor_cancel] at this
  have hlt := Nat.mod_lt p (Nat.two_pow_pos n)
  have hle : 2 ^ n ≤ 65536 := by have := Nat.pow_le_pow_right (n := 2) (by decide) hn; simpa using this
  obtain ⟨j, hj⟩ : ∃ j, 8 * u.length = j + k := ⟨8 * u.length - k, by omega⟩
  have hj2 : 2 ^ n ≤ 2 ^ j := Nat.pow_le_pow_right (by decide) (by omega)
  rw [hj, remn_shift, remn_small _ _ (by omega) (by omega)] at h3
  have h0 := iter_up_zero k (by omega) h3
  have hnum := numLE_flipsN u k p n hk
  rw [h0, Nat.mul_zero, Nat.xor_zero] at hnum
  exact hne (numLE_inj hlen hnum)

end Go.Proofs.Sum2
