/- The walks of the joins of sums, in the program and in the reference; the statements SumJoins, SumParts, SumKnown. -/
import Derived.Test.YtkgenpoenpkpeaaDoorSumM
import Derived.StillTailTactics
namespace Go.Proofs.YtkgenpoenpkpeaaDoor
open Go.RowKit Sum2

theorem wrong_no (n : Int) (h0 : 0 ≤ n) (h1 : n ≤ 20000) (w : World) :
    Calls Tryd.prog 42 #[.int .i64 n] w fun e w' => e = .returned (.bool false) ∧ w = w' := by
  have d1 : decide (n < 0) = false := by simp; omega
  have d2 : decide (20000 < n) = false := by simp; omega
  clear h0 h1
  go_enter Tryd.func42, Tryd.ntmps42
  go_wp2
  go_ret
  exact ⟨rfl, rfl⟩
theorem wrong_low (n : Int) (h0 : n < 0) (w : World) :
    Calls Tryd.prog 42 #[.int .i64 n] w fun e w' => e = .returned (.bool true) ∧ w = w' := by
  have d1 : decide (n < 0) = true := by simpa using h0
  clear h0
  go_enter Tryd.func42, Tryd.ntmps42
  go_wp2
  go_ret
  exact ⟨rfl, rfl⟩
theorem wrong_high (n : Int) (h0 : 20000 < n) (w : World) :
    Calls Tryd.prog 42 #[.int .i64 n] w fun e w' => e = .returned (.bool true) ∧ w = w' := by
  have d1 : decide (n < 0) = false := by simp; omega
  have d2 : decide (20000 < n) = true := by simpa using h0
  clear h0
  go_enter Tryd.func42, Tryd.ntmps42
  go_wp2
  go_ret
  exact ⟨rfl, rfl⟩

/-- The joined sum and the error. -/
def joinE32 (a b : Nat) (n : Int) : Nat × Nat := if n < 0 ∨ 20000 < n then (0, 2) else (join32 a b n.toNat, 0)
def joinE16 (a b : Nat) (n : Int) : Nat × Nat := if n < 0 ∨ 20000 < n then (0, 2) else (join16 a b n.toNat, 0)
theorem joinE32_no {a b : Nat} {n : Int} (h : n < 0 ∨ 20000 < n) : joinE32 a b n = (0, 2) := by unfold joinE32; rw [if_pos h]
theorem joinE16_no {a b : Nat} {n : Int} (h : n < 0 ∨ 20000 < n) : joinE16 a b n = (0, 2) := by unfold joinE16; rw [if_pos h]
theorem joinE32_ok {a b n : Nat} (h : n ≤ 20000) : joinE32 a b n = (join32 a b n, 0) := by unfold joinE32; rw [if_neg (by omega), Int.toNat_natCast]
theorem joinE16_ok {a b n : Nat} (h : n ≤ 20000) : joinE16 a b n = (join16 a b n, 0) := by unfold joinE16; rw [if_neg (by omega), Int.toNat_natCast]

theorem two_pow_lt {k : Nat} (h : k < 32) : 2 ^ k < 4294967296 := by
  have := Nat.pow_lt_pow_right (a := 2) (by decide) h; simpa using this
theorem two_pow_lt16 {k : Nat} (h : k < 16) : 2 ^ k < 65536 := by
  have := Nat.pow_lt_pow_right (a := 2) (by decide) h; simpa using this
theorem pow_mod32 (m : Nat) (h : 2 ^ m < 4294967296) : (2 : Int) ^ m % 4294967296 = ((2 ^ m : Nat) : Int) := by
  have e2 : ((2 ^ m : Nat) : Int) = (2 : Int) ^ m := Int.natCast_pow 2 m
  rw [← e2]
  generalize 2 ^ m = x at *
  omega
theorem pow_mod16 (m : Nat) (h : 2 ^ m < 65536) : IntKind.u16.wrap ((2 : Int) ^ m) = ((2 ^ m : Nat) : Int) := by
  rw [IntKind.wrap_u16]
  have e2 : ((2 ^ m : Nat) : Int) = (2 : Int) ^ m := Int.natCast_pow 2 m
  rw [← e2]
  generalize 2 ^ m = x at *
  omega
theorem zeros32_lt (n x : Nat) (hx : x < 4294967296) : zeros32 n x < 4294967296 := by rw [zeros32_down]; exact iter_lt (fun _ => down_lt) _ hx
theorem zeros16_lt (n x : Nat) (hx : x < 65536) : zeros16 n x < 65536 := by rw [zeros16_up]; exact up_iter_lt _ hx

set_option maxHeartbeats 1000000 in
theorem join32_in (a b n : Nat) (ha : a < 4294967296) (hb : b < 4294967296) (hn : n ≤ 20000) (w : World) (ht : Tab w) :
    Calls Tryd.prog 29 #[.int .u32 a, .int .u32 b, .int .i64 n] w fun e w' => e = .returned (.tuple #[.int .u32 (join32 a b n : Nat), .int .i64 0]) ∧ Below w.heap.size w w' := by
  have HT := Lib.hid ht; clear ht
  have cw := wrong_no n (by omega) (by omega)
  have CW := Lib.hid cw; clear cw
  go_enter Tryd.func29, Tryd.ntmps29
  go_wp2_with fail
  refine (CW.out _).mono ?_; rintro e w1 ⟨rfl, rfl⟩
  go_wp2_with fail
  go_loopw [12] (fun i wr => ∃ k : Nat, k ≤ 32 ∧ i = .int .i64 k ∧ Mat wr w.heap.size (fun i => if i < k then byte32 (2 ^ i) 0 else 0) ∧ Below w.heap.size w wr) (fun i _ => 32 - (intOf i).toNat)
  case atStart => exact ⟨0, by omega, rfl, heap_alloc_new _ _, (Below.refl _ _).alloc (Nat.le_refl _) _⟩
  case round =>
    obtain ⟨k, hk, rfl, hA, hbl⟩ := hrel
    by_cases hlt : k < 32
    · have h2 := two_pow_lt hlt
      have hp := pow_mod32 k h2
      have cb := byte32_any (2 ^ k) 0 h2 (by decide) wr (HT.out.below hbl)
      have hcA := hA.cell k hlt
      have hfA := hA.frozen k
      have hset := hA.set k (byte32 (2 ^ k) 0) hlt
      rw [show ((0 : Nat) : Int) = 0 from rfl] at cb
      generalize hq : (2 ^ k : Nat) = q at *
      obtain ⟨y, hy⟩ : ∃ y, y = byte32 q 0 := ⟨_, rfl⟩
      rw [← hy] at cb hset
      have CB := Lib.hid cb; have HS := Lib.hid hset; have HY := Lib.hid hy; have HQ := Lib.hid hq
      clear cb hset hy hA hq h2
      go_wp2_with fail
      refine CB.out.mono ?_; rintro e w1 ⟨rfl, rfl⟩
      go_wp2_with fail
      go_roundw
      case rel =>
        refine ⟨k + 1, by omega, by go_num, ?_, hbl.setCell (by simp) _⟩
        have h := HS.out
        unfold Mat at h ⊢
        rw [h]
        congr 2
        apply mcells_congr
        intro i _
        by_cases e : i = k
        · subst e; rw [if_pos rfl, if_pos (by omega), HY.out, ← HQ.out]
        · rw [if_neg e]
          by_cases e2 : i < k
          · rw [if_pos e2, if_pos (by omega)]
          · rw [if_neg e2, if_neg (by omega)]
      case measure => simp [intOf]; omega
    · obtain rfl : k = 32 := by omega
      have e0 : mcells (fun i => if i < 32 then byte32 (2 ^ i) 0 else 0) = mcells (fun i => byte32 (2 ^ i) 0) := mcells_congr fun i hi => by rw [if_pos hi]
      unfold Mat at hA
      rw [e0] at hA
      have hz := zeros_any (fun i => byte32 (2 ^ i) 0) (fun i hi => byte32_lt (two_pow_lt hi) (by decide)) a ha n (by omega) wr
      rw [zeros32_mat ha (by omega) _ (fun i _ => rfl)] at hz
      have hzl := zeros32_lt n a ha
      obtain ⟨z, hzz⟩ : ∃ z, z = zeros32 n a := ⟨_, rfl⟩
      have hj : join32 a b n = z ^^^ b := by rw [hzz]; rfl
      rw [← hzz] at hz hzl
      have hx := u32_xor_nat z b hzl hb
      rw [← hj] at hx
      obtain ⟨j, hjj⟩ : ∃ j, j = join32 a b n := ⟨_, rfl⟩
      rw [← hjj] at hx
      have HJ := Lib.hid hjj; clear hjj
      have HA := Lib.hid hA; have HZ := Lib.hid hz
      clear hA hz hzz hj e0
      go_wp2_with (with_reducible refine wpList_load_row rfl 56 _ rfl _ rfl _ _ _ _ HA.out Tryd.underlying56 rfl (by rw [mcells_size]; exact info_mat) ?_)
      refine HZ.out.mono ?_; rintro e w1 ⟨rfl, hb1⟩
      go_wp2_with fail
      go_ret2
      exact ⟨by rw [← HJ.out]; rfl, hbl.trans (hb1.mono hbl.size)⟩

theorem join32_any (a b : Nat) (n : Int) (ha : a < 4294967296) (hb : b < 4294967296) (w : World) (ht : Tab w) :
    Calls Tryd.prog 29 #[.int .u32 a, .int .u32 b, .int .i64 n] w fun e w' => e = .returned (.tuple #[.int .u32 ((joinE32 a b n).1 : Nat), .int .i64 ((joinE32 a b n).2 : Nat)]) ∧ Below w.heap.size w w' := by
  have h : n < 0 ∨ 20000 < n ∨ (0 ≤ n ∧ n ≤ 20000) := by omega
  rcases h with h | h | ⟨h0, h1⟩
  · rw [joinE32_no (Or.inl h)]
    have CW := Lib.hid (wrong_low n h)
    clear h
    go_enter Tryd.func29, Tryd.ntmps29
    go_wp2_with (go_at_call 42; refine (CW.out _).mono ?_; rintro e w1 ⟨rfl, rfl⟩)
    go_ret2
    exact ⟨rfl, Below.refl _ _⟩
  · rw [joinE32_no (Or.inr h)]
    have CW := Lib.hid (wrong_high n h)
    clear h
    go_enter Tryd.func29, Tryd.ntmps29
    go_wp2_with (go_at_call 42; refine (CW.out _).mono ?_; rintro e w1 ⟨rfl, rfl⟩)
    go_ret2
    exact ⟨rfl, Below.refl _ _⟩
  · obtain ⟨m, rfl⟩ : ∃ m : Nat, n = m := ⟨n.toNat, by omega⟩
    rw [joinE32_ok (by omega)]
    exact join32_in a b m ha hb (by omega) w ht

theorem rjoin32_any (a b : Nat) (n : Int) (ha : a < 4294967296) (hb : b < 4294967296) (w : World) :
    Calls Tryd.prog 30 #[.int .u32 a, .int .u32 b, .int .i64 n] w fun e w' => e = .returned (.tuple #[.int .u32 ((joinE32 a b n).1 : Nat), .int .i64 ((joinE32 a b n).2 : Nat)]) ∧ Below w.heap.size w w' := by
  have h : n < 0 ∨ 20000 < n ∨ (0 ≤ n ∧ n ≤ 20000) := by omega
  rcases h with h | h | ⟨h0, h1⟩
  · rw [joinE32_no (Or.inl h)]
    have d1 : decide (n < 0) = true := by simpa using h
    clear h
    go_enter Tryd.func30, Tryd.ntmps30
    go_wp2_with fail
    go_ret2
    exact ⟨rfl, Below.refl _ _⟩
  · rw [joinE32_no (Or.inr h)]
    have d1 : decide (n < 0) = false := by simp; omega
    have d2 : decide (20000 < n) = true := by simpa using h
    clear h
    go_enter Tryd.func30, Tryd.ntmps30
    go_wp2_with fail
    go_ret2
    exact ⟨rfl, Below.refl _ _⟩
  · obtain ⟨m, rfl⟩ : ∃ m : Nat, n = m := ⟨n.toNat, by omega⟩
    have hm : m ≤ 20000 := by omega
    rw [joinE32_ok hm]
    obtain ⟨R, hR⟩ : ∃ R, R = join32 a b m := ⟨_, rfl⟩
    rw [← hR]
    have hR' : R = zeros32 m a ^^^ b := hR
    have HR := Lib.hid hR'
    have d1 : decide ((m : Int) < 0) = false := by simp
    have d2 : decide ((20000 : Int) < (m : Int)) = false := by simp; omega
    clear hR hR' h0 h1
    go_enter Tryd.func30, Tryd.ntmps30
    go_wp2_with fail
    go_loop [0, 8] (fun r i => ∃ k q : Nat, k ≤ m ∧ i = .int .i64 k ∧ r = .int .u32 q ∧ Hid (q = zeros32 k a) ∧ q < 4294967296) (fun _ i => m - (intOf i).toNat)
    case atStart => exact ⟨0, a, by omega, rfl, rfl, rfl, ha⟩
    case round =>
      obtain ⟨k, q, hk, rfl, rfl, hq, hq32⟩ := hrel
      by_cases hlt : k < m
      · have cb := rbyte32_any q 0 hq32 (by decide)
        rw [show ((0 : Nat) : Int) = 0 from rfl] at cb
        have CB := Lib.hid cb
        clear cb
        go_wp2_with (go_at_call 37; refine (CB.out _).mono ?_; rintro e w' ⟨rfl, rfl⟩)
        go_round
        case rel => exact ⟨k + 1, byte32 q 0, by omega, by go_num, rfl, by
          show byte32 q 0 = zeros32 (k + 1) a
          unfold zeros32
          rw [iter_succ']
          show byte32 q 0 = byte32 (zeros32 k a) 0
          exact congrArg (fun u => byte32 u 0) hq.out, byte32_lt hq32 (by decide)⟩
        case measure => simp [intOf]; omega
      · obtain rfl : k = m := by omega
        have hx := u32_xor_nat q b hq32 hb
        have e : q ^^^ b = R := by rw [HR.out, ← hq.out]
        rw [e] at hx
        clear e
        go_wp2_with fail
        go_ret2
        exact ⟨rfl, Below.refl _ _⟩
theorem not_u16 (q : Nat) (hq : q < 65536) : bits .xor .u16 (if IntKind.u16.signed = true then (-1 : Int) else IntKind.u16.max) (q : Int) = ((q ^^^ 65535 : Nat) : Int) := by
  have := u16_xor_nat 65535 q (by decide) hq
  rw [Nat.xor_comm] at this
  exact this

set_option maxHeartbeats 1000000 in
theorem join16_in (a b n : Nat) (ha : a < 65536) (hb : b < 65536) (hn : n ≤ 20000) (w : World) :
    Calls Tryd.prog 31 #[.int .u16 a, .int .u16 b, .int .i64 n] w fun e w' => e = .returned (.tuple #[.int .u16 (join16 a b n : Nat), .int .i64 0]) ∧ Below w.heap.size w w' := by
  have cw := wrong_no n (by omega) (by omega)
  have CW := Lib.hid cw; clear cw
  go_enter Tryd.func31, Tryd.ntmps31
  go_wp2_with fail
  refine (CW.out _).mono ?_; rintro e w1 ⟨rfl, rfl⟩
  go_wp2_with fail
  go_loopw [12] (fun i wr => ∃ k : Nat, k ≤ 16 ∧ i = .int .i64 k ∧ Mat wr w.heap.size (fun i => if i < k then byte16 (2 ^ i) 0 else 0) ∧ Below w.heap.size w wr) (fun i _ => 16 - (intOf i).toNat)
  case atStart => exact ⟨0, by omega, rfl, heap_alloc_new _ _, (Below.refl _ _).alloc (Nat.le_refl _) _⟩
  case round =>
    obtain ⟨k, hk, rfl, hA, hbl⟩ := hrel
    by_cases hlt : k < 16
    · have h2 := two_pow_lt16 hlt
      have hp := pow_mod16 k h2
      have cb := byte16_any (2 ^ k) 0 h2 (by decide) wr
      have hyl := byte16_lt h2 (show 0 < 256 by decide)
      have hcA := hA.cell k (by omega)
      have hfA := hA.frozen k
      have hset := hA.set k (byte16 (2 ^ k) 0) (by omega)
      rw [show ((0 : Nat) : Int) = 0 from rfl] at cb
      generalize hq : (2 ^ k : Nat) = q at *
      obtain ⟨y, hy⟩ : ∃ y, y = byte16 q 0 := ⟨_, rfl⟩
      rw [← hy] at cb hset hyl
      have CB := Lib.hid cb; have HS := Lib.hid hset; have HY := Lib.hid hy; have HQ := Lib.hid hq
      clear cb hset hy hA hq h2
      go_wp2_with fail
      refine CB.out.mono ?_; rintro e w1 ⟨rfl, rfl⟩
      go_wp2_with fail
      go_roundw
      case rel =>
        refine ⟨k + 1, by omega, by go_num, ?_, hbl.setCell (by simp) _⟩
        have h := HS.out
        unfold Mat at h ⊢
        rw [h]
        congr 2
        apply mcells_congr
        intro i _
        by_cases e : i = k
        · subst e; rw [if_pos rfl, if_pos (by omega), HY.out, ← HQ.out]
        · rw [if_neg e]
          by_cases e2 : i < k
          · rw [if_pos e2, if_pos (by omega)]
          · rw [if_neg e2, if_neg (by omega)]
      case measure => simp [intOf]; omega
    · obtain rfl : k = 16 := by omega
      unfold Mat at hA
      obtain ⟨a', ha'⟩ : ∃ a', a' = a ^^^ 65535 := ⟨_, rfl⟩
      have hnot := not_u16 a ha
      rw [← ha'] at hnot
      have hal : a' < 65536 := by rw [ha']; exact Nat.xor_lt_two_pow (n := 16) ha (by decide)
      have hz := zeros_any (fun i => if i < 16 then byte16 (2 ^ i) 0 else 0) (fun i hi => by
        by_cases h : i < 16
        · rw [if_pos h]; have := byte16_lt (two_pow_lt16 h) (show 0 < 256 by decide); omega
        · rw [if_neg h]; decide) a' (by omega) n (by omega) wr
      rw [zeros16_mat hal (by omega) _ (fun i hi => if_pos hi)] at hz
      have hzl := zeros16_lt n a' hal
      obtain ⟨z, hzz⟩ : ∃ z, z = zeros16 n a' := ⟨_, rfl⟩
      have hj : join16 a b n = z ^^^ b := by rw [hzz, ha']; rfl
      rw [← hzz] at hz hzl
      have hx := u16_xor_nat z b hzl hb
      rw [← hj] at hx
      obtain ⟨j, hjj⟩ : ∃ j, j = join16 a b n := ⟨_, rfl⟩
      rw [← hjj] at hx
      have HJ := Lib.hid hjj; clear hjj
      have HA := Lib.hid hA; have HZ := Lib.hid hz
      clear hA hz hzz hj ha'
      go_wp2_with (with_reducible refine wpList_load_row rfl 56 _ rfl _ rfl _ _ _ _ HA.out Tryd.underlying56 rfl (by rw [mcells_size]; exact info_mat) ?_)
      refine HZ.out.mono ?_; rintro e w1 ⟨rfl, hb1⟩
      go_wp2_with fail
      go_ret2
      exact ⟨by rw [← HJ.out]; rfl, hbl.trans (hb1.mono hbl.size)⟩

theorem join16_any (a b : Nat) (n : Int) (ha : a < 65536) (hb : b < 65536) (w : World) :
    Calls Tryd.prog 31 #[.int .u16 a, .int .u16 b, .int .i64 n] w fun e w' => e = .returned (.tuple #[.int .u16 ((joinE16 a b n).1 : Nat), .int .i64 ((joinE16 a b n).2 : Nat)]) ∧ Below w.heap.size w w' := by
  have h : n < 0 ∨ 20000 < n ∨ (0 ≤ n ∧ n ≤ 20000) := by omega
  rcases h with h | h | ⟨h0, h1⟩
  · rw [joinE16_no (Or.inl h)]
    have CW := Lib.hid (wrong_low n h)
    clear h
    go_enter Tryd.func31, Tryd.ntmps31
    go_wp2_with (go_at_call 42; refine (CW.out _).mono ?_; rintro e w1 ⟨rfl, rfl⟩)
    go_ret2
    exact ⟨rfl, Below.refl _ _⟩
  · rw [joinE16_no (Or.inr h)]
    have CW := Lib.hid (wrong_high n h)
    clear h
    go_enter Tryd.func31, Tryd.ntmps31
    go_wp2_with (go_at_call 42; refine (CW.out _).mono ?_; rintro e w1 ⟨rfl, rfl⟩)
    go_ret2
    exact ⟨rfl, Below.refl _ _⟩
  · obtain ⟨m, rfl⟩ : ∃ m : Nat, n = m := ⟨n.toNat, by omega⟩
    rw [joinE16_ok (by omega)]
    exact join16_in a b m ha hb (by omega) w

theorem rjoin16_any (a b : Nat) (n : Int) (ha : a < 65536) (hb : b < 65536) (w : World) :
    Calls Tryd.prog 32 #[.int .u16 a, .int .u16 b, .int .i64 n] w fun e w' => e = .returned (.tuple #[.int .u16 ((joinE16 a b n).1 : Nat), .int .i64 ((joinE16 a b n).2 : Nat)]) ∧ Below w.heap.size w w' := by
  have h : n < 0 ∨ 20000 < n ∨ (0 ≤ n ∧ n ≤ 20000) := by omega
  rcases h with h | h | ⟨h0, h1⟩
  · rw [joinE16_no (Or.inl h)]
    have d1 : decide (n < 0) = true := by simpa using h
    clear h
    go_enter Tryd.func32, Tryd.ntmps32
    go_wp2_with fail
    go_ret2
    exact ⟨rfl, Below.refl _ _⟩
  · rw [joinE16_no (Or.inr h)]
    have d1 : decide (n < 0) = false := by simp; omega
    have d2 : decide (20000 < n) = true := by simpa using h
    clear h
    go_enter Tryd.func32, Tryd.ntmps32
    go_wp2_with fail
    go_ret2
    exact ⟨rfl, Below.refl _ _⟩
  · obtain ⟨m, rfl⟩ : ∃ m : Nat, n = m := ⟨n.toNat, by omega⟩
    have hm : m ≤ 20000 := by omega
    rw [joinE16_ok hm]
    obtain ⟨R, hR⟩ : ∃ R, R = join16 a b m := ⟨_, rfl⟩
    rw [← hR]
    have hR' : R = zeros16 m (a ^^^ 65535) ^^^ b := hR
    obtain ⟨a', ha'⟩ : ∃ a', a' = a ^^^ 65535 := ⟨_, rfl⟩
    have hnot : bits .xor .u16 (a : Int) 65535 = (a' : Int) := by rw [ha']; exact u16_xor_nat a 65535 ha (by decide)
    have hal : a' < 65536 := by rw [ha']; exact Nat.xor_lt_two_pow (n := 16) ha (by decide)
    rw [← ha'] at hR'
    have HR := Lib.hid hR'
    have d1 : decide ((m : Int) < 0) = false := by simp
    have d2 : decide ((20000 : Int) < (m : Int)) = false := by simp; omega
    clear hR hR' h0 h1 ha'
    go_enter Tryd.func32, Tryd.ntmps32
    go_wp2_with fail
    go_loop [0, 8] (fun r i => ∃ k q : Nat, k ≤ m ∧ i = .int .i64 k ∧ r = .int .u16 q ∧ Hid (q = zeros16 k a') ∧ q < 65536) (fun _ i => m - (intOf i).toNat)
    case atStart => exact ⟨0, a', by omega, rfl, rfl, rfl, hal⟩
    case round =>
      obtain ⟨k, q, hk, rfl, rfl, hq, hq16⟩ := hrel
      by_cases hlt : k < m
      · have cb := rbyte16_any q 0 hq16 (by decide)
        rw [show ((0 : Nat) : Int) = 0 from rfl] at cb
        have CB := Lib.hid cb
        clear cb
        go_wp2_with (go_at_call 38; refine (CB.out _).mono ?_; rintro e w' ⟨rfl, rfl⟩)
        go_round
        case rel => exact ⟨k + 1, byte16 q 0, by omega, by go_num, rfl, by
          show byte16 q 0 = zeros16 (k + 1) a'
          unfold zeros16
          rw [iter_succ']
          show byte16 q 0 = byte16 (zeros16 k a') 0
          exact congrArg (fun u => byte16 u 0) hq.out, byte16_lt hq16 (by decide)⟩
        case measure => simp [intOf]; omega
      · obtain rfl : k = m := by omega
        have hx := u16_xor_nat q b hq16 hb
        have e : q ^^^ b = R := by rw [HR.out, ← hq.out]
        rw [e] at hx
        clear e
        go_wp2_with fail
        go_ret2
        exact ⟨rfl, Below.refl _ _⟩
theorem sumJoins_any (a : Int) (wa : (Lit.int .u32 a).wf = true) (b : Int) (wb : (Lit.int .u32 b).wf = true) (n : Int) (_wn : (Lit.int .i64 n).wf = true) (w : World) (ht : Tab w) :
    Calls Tryd.prog 8 #[.int .u32 a, .int .u32 b, .int .i64 n] w fun e w' => e = .returned (.bool true) ∧ Below w.heap.size w w' := by
  have HT := Lib.hid ht; clear ht
  obtain ⟨a, rfl, ha⟩ := u32_nat wa
  obtain ⟨b, rfl, hb⟩ := u32_nat wb
  have c1 := join32_any a b n ha hb
  have c2 := rjoin32_any a b n ha hb
  obtain ⟨a', ha'⟩ : ∃ a', a' = a % 65536 := ⟨_, rfl⟩
  obtain ⟨b', hb'⟩ : ∃ b', b' = b % 65536 := ⟨_, rfl⟩
  have ea : (a : Int) % 65536 = (a' : Int) := by omega
  have eb : (b : Int) % 65536 = (b' : Int) := by omega
  have la : a' < 65536 := by omega
  have lb : b' < 65536 := by omega
  have c3 := join16_any a' b' n la lb
  have c4 := rjoin16_any a' b' n la lb
  clear ha' hb' wa wb
  generalize joinE32 a b n = R at *
  generalize joinE16 a' b' n = S at *
  have C1 := Lib.hid c1; have C2 := Lib.hid c2; have C3 := Lib.hid c3; have C4 := Lib.hid c4
  clear c1 c2 c3 c4
  go_enter Tryd.func8, Tryd.ntmps8
  go_wp2_with fail
  refine (C1.out _ HT.out).mono ?_; rintro e w1 ⟨rfl, b1⟩
  go_wp2_with fail
  refine (C2.out _).mono ?_; rintro e w2 ⟨rfl, b2⟩
  have B2 := andThen b1 b2; clear b1 b2
  go_wp2_with fail
  refine (C3.out _).mono ?_; rintro e w3 ⟨rfl, b3⟩
  have B3 := andThen B2 b3; clear B2 b3
  go_wp2_with fail
  refine (C4.out _).mono ?_; rintro e w4 ⟨rfl, b4⟩
  have B4 := andThen B3 b4; clear B3 b4
  go_wp2_with fail
  refine (awake_any _ (HT.out.below B4)).mono ?_; rintro e w9 ⟨rfl, hb9⟩
  go_wp2
  go_ret
  exact ⟨rfl, andThen B4 hb9⟩

theorem parts_awake (a b c : ByteArray) (h : 300 < a.size ∨ 300 < b.size ∨ 300 < c.size) (w : World) (ht : Tab w) :
    Calls Tryd.prog 9 #[.string a, .string b, .string c] w fun e w' => e = .returned (.bool true) ∧ Below w.heap.size w w' := by
  have HT := Lib.hid ht; clear ht
  have h' : decide ((300 : Int) < (a.size : Int)) = true ∨ (decide ((300 : Int) < (a.size : Int)) = false ∧ decide ((300 : Int) < (b.size : Int)) = true) ∨ (decide ((300 : Int) < (a.size : Int)) = false ∧ decide ((300 : Int) < (b.size : Int)) = false ∧ decide ((300 : Int) < (c.size : Int)) = true) := by
    simp only [decide_eq_true_eq, decide_eq_false_iff_not]; omega
  clear h
  rcases h' with h1 | ⟨h1, h2⟩ | ⟨h1, h2, h3⟩
  all_goals
    go_enter Tryd.func9, Tryd.ntmps9
    go_wp2_with (go_at_call 11; refine (awake_any _ HT.out).mono ?_; rintro e w' ⟨rfl, hbw⟩)
    go_ret
    exact ⟨rfl, hbw⟩

set_option maxHeartbeats 1000000 in
theorem parts_any (a b c : ByteArray) (ha : a.size ≤ 300) (hb : b.size ≤ 300) (hc : c.size ≤ 300) (w : World) (ht : Tab w) :
    Calls Tryd.prog 9 #[.string a, .string b, .string c] w fun e w' => e = .returned (.bool true) ∧ Below w.heap.size w w' := by
  have HT := Lib.hid ht; clear ht
  have d1 : decide ((300 : Int) < (a.size : Int)) = false := by simp; omega
  have d2 : decide ((300 : Int) < (b.size : Int)) = false := by simp; omega
  have d3 : decide ((300 : Int) < (c.size : Int)) = false := by simp; omega
  have lb : b.data.toList.length = b.size := by simp
  have lc : c.data.toList.length = c.size := by simp
  have dbc : (b ++ c).data.toList = b.data.toList ++ c.data.toList := by rw [ByteArray.data_append, Array.toList_append]
  have dabc : ((a ++ b) ++ c).data.toList = (a.data.toList ++ b.data.toList) ++ c.data.toList := by rw [ByteArray.data_append, ByteArray.data_append, Array.toList_append, Array.toList_append]
  have hbc := run_string_add_sum (P := Tryd.prog) (a := b) (b := c) (h := by omega)
  have hab := run_string_add_sum (P := Tryd.prog) (a := a) (b := b) (h := by omega)
  have habs : (a ++ b).size = a.size + b.size := ByteArray.size_append
  have hbcs : (b ++ c).size = b.size + c.size := ByteArray.size_append
  have habcs : ((a ++ b) ++ c).size = a.size + b.size + c.size := by rw [ByteArray.size_append, habs]
  have habc := run_string_add_sum (P := Tryd.prog) (a := a ++ b) (b := c) (h := by omega)
  have ca := crc32_any a (by omega); have cb := crc32_any b (by omega); have cc := crc32_any c (by omega)
  have cbc := crc32_any (b ++ c) (by omega); have call := crc32_any ((a ++ b) ++ c) (by omega)
  have sa := crc16_any a (by omega); have sb := crc16_any b (by omega); have sc := crc16_any c (by omega); have sall := crc16_any ((a ++ b) ++ c) (by omega)
  rw [dbc] at cbc
  rw [dabc] at call sall
  have j1 := join32_in _ _ b.size (crc32_lt a.data.toList) (crc32_lt b.data.toList) (by omega)
  have j2 := join32_in _ _ c.size (crc32_lt (a.data.toList ++ b.data.toList)) (crc32_lt c.data.toList) (by omega)
  have j3 := join32_in _ _ (b.size + c.size) (crc32_lt a.data.toList) (crc32_lt (b.data.toList ++ c.data.toList)) (by omega)
  have k1 := join16_in _ _ b.size (crc16_lt a.data.toList) (crc16_lt b.data.toList) (by omega)
  have k2 := join16_in _ _ c.size (crc16_lt (a.data.toList ++ b.data.toList)) (crc16_lt c.data.toList) (by omega)
  have e1 := crc32_join a.data.toList b.data.toList
  have e2 := crc32_join (a.data.toList ++ b.data.toList) c.data.toList
  have e3 := crc32_join a.data.toList (b.data.toList ++ c.data.toList)
  have g1 := crc16_join a.data.toList b.data.toList
  have g2 := crc16_join (a.data.toList ++ b.data.toList) c.data.toList
  rw [lb] at e1 g1
  rw [lc] at e2 g2
  rw [List.length_append, lb, lc, ← List.append_assoc] at e3
  rw [← e1] at j1
  rw [← e2] at j2
  rw [← e3] at j3
  rw [← g1] at k1
  rw [← g2] at k2
  rw [Int.natCast_add] at j3
  generalize crc32 (a.data.toList ++ b.data.toList ++ c.data.toList) = z5 at *
  generalize crc32 (b.data.toList ++ c.data.toList) = z4 at *
  generalize crc32 (a.data.toList ++ b.data.toList) = z3 at *
  generalize crc32 a.data.toList = z0 at *
  generalize crc32 b.data.toList = z1 at *
  generalize crc32 c.data.toList = z2 at *
  generalize crc16 (a.data.toList ++ b.data.toList ++ c.data.toList) = y5 at *
  generalize crc16 (a.data.toList ++ b.data.toList) = y3 at *
  generalize crc16 a.data.toList = y0 at *
  generalize crc16 b.data.toList = y1 at *
  generalize crc16 c.data.toList = y2 at *
  have CA := Lib.hid ca; have CB := Lib.hid cb; have CC := Lib.hid cc; have CBC := Lib.hid cbc; have CALL := Lib.hid call
  have SA := Lib.hid sa; have SB := Lib.hid sb; have SC := Lib.hid sc; have SALL := Lib.hid sall
  have J1 := Lib.hid j1; have J2 := Lib.hid j2; have J3 := Lib.hid j3; have K1 := Lib.hid k1; have K2 := Lib.hid k2
  clear ca cb cc cbc call sa sb sc sall j1 j2 j3 k1 k2 e1 e2 e3 g1 g2 habs hbcs habcs dbc dabc lb lc
  go_enter Tryd.func9, Tryd.ntmps9
  go_wp2_with fail
  refine (CA.out _ HT.out).mono ?_; rintro e w1 ⟨rfl, rfl⟩
  go_wp2_with fail
  refine (CB.out _ HT.out).mono ?_; rintro e w1 ⟨rfl, rfl⟩
  go_wp2_with fail
  refine (J1.out _ HT.out).mono ?_; rintro e w1 ⟨rfl, B1⟩
  go_wp2_with fail
  refine (CC.out _ (HT.out.below B1)).mono ?_; rintro e w2 ⟨rfl, rfl⟩
  go_wp2_with fail
  refine (J2.out _ (HT.out.below B1)).mono ?_; rintro e w2 ⟨rfl, b2⟩
  have B2 := andThen B1 b2; clear B1 b2
  go_wp2_with fail
  refine (CA.out _ (HT.out.below B2)).mono ?_; rintro e w3 ⟨rfl, rfl⟩
  go_wp2_with fail
  refine (CBC.out _ (HT.out.below B2)).mono ?_; rintro e w3 ⟨rfl, rfl⟩
  go_wp2_with fail
  refine (J3.out _ (HT.out.below B2)).mono ?_; rintro e w3 ⟨rfl, b3⟩
  have B3 := andThen B2 b3; clear B2 b3
  go_wp2_with fail
  refine (SA.out _).mono ?_; rintro e w4 ⟨rfl, rfl⟩
  go_wp2_with fail
  refine (SB.out _).mono ?_; rintro e w4 ⟨rfl, rfl⟩
  go_wp2_with fail
  refine (K1.out _).mono ?_; rintro e w4 ⟨rfl, b4⟩
  have B4 := andThen B3 b4; clear B3 b4
  go_wp2_with fail
  refine (SC.out _).mono ?_; rintro e w5 ⟨rfl, rfl⟩
  go_wp2_with fail
  refine (K2.out _).mono ?_; rintro e w5 ⟨rfl, b5⟩
  have B5 := andThen B4 b5; clear B4 b5
  go_wp2_with fail
  refine (CALL.out _ (HT.out.below B5)).mono ?_; rintro e w6 ⟨rfl, rfl⟩
  go_wp2_with fail
  refine (SALL.out _).mono ?_; rintro e w6 ⟨rfl, rfl⟩
  go_wp2_with fail
  refine (awake_any _ (HT.out.below B5)).mono ?_; rintro e w9 ⟨rfl, hb9⟩
  go_wp2
  go_ret
  exact ⟨rfl, andThen B5 hb9⟩

theorem sumParts_any (a : ByteArray) (_ha : a.size ≤ 140737488351232) (b : ByteArray) (_hb : b.size ≤ 140737488351232) (c : ByteArray) (_hc : c.size ≤ 140737488351232) (w : World) (ht : Tab w) :
    Calls Tryd.prog 9 #[.string a, .string b, .string c] w fun e w' => e = .returned (.bool true) ∧ Below w.heap.size w w' := by
  by_cases h : a.size ≤ 300 ∧ b.size ≤ 300 ∧ c.size ≤ 300
  · exact parts_any a b c h.1 h.2.1 h.2.2 w ht
  · exact parts_awake a b c (by omega) w ht
end Go.Proofs.YtkgenpoenpkpeaaDoor
