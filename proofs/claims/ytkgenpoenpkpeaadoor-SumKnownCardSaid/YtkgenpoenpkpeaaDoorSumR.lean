/- The walks of the reference's functions of chapter 2 (sum). -/
import Derived.Test.YtkgenpoenpkpeaaDoorSumB
import Derived.Deep.RegionWith
namespace Go.Proofs.YtkgenpoenpkpeaaDoor
open Go.RowKit Sum2

theorem rdown_any (x : Nat) (hx : x < 4294967296) (w : World) :
    Calls Tryd.prog 46 #[.int .u32 x] w fun e w' => e = .returned (.int .u32 (down x : Nat)) ∧ w = w' := by
  by_cases h : x % 2 = 1
  · have h1 : ((x : Int) % 2 == 1) = true := by simp; omega
    obtain ⟨z, hz⟩ : ∃ z : Nat, z = (x / 2) ^^^ 0x82F63B78 := ⟨_, rfl⟩
    have e1 : bits .xor .u32 ((x : Int) / 2) 2197175160 = (z : Int) := by
      have := u32_xor_nat (x / 2) 2197175160 (by omega) (by decide); rw [hz]; exact this
    have e : down x = z := by unfold down; rw [if_pos h, hz]
    rw [e]
    clear h hz e
    go_enter Tryd.func46, Tryd.ntmps46
    go_wp2
    go_ret
    exact ⟨rfl, rfl⟩
  · have h1 : ((x : Int) % 2 == 1) = false := by simp; omega
    have e : down x = x / 2 := by unfold down; rw [if_neg h]
    rw [e]
    clear h e
    go_enter Tryd.func46, Tryd.ntmps46
    go_wp2
    go_ret
    exact ⟨rfl, rfl⟩

theorem rup_any (x : Nat) (hx : x < 65536) (w : World) :
    Calls Tryd.prog 47 #[.int .u16 x] w fun e w' => e = .returned (.int .u16 (up x : Nat)) ∧ w = w' := by
  by_cases h : 32768 ≤ x
  · have h1 : (32768 : Int) ≤ (x : Int) := by omega
    obtain ⟨s, hs⟩ : ∃ s : Nat, s = 2 * x % 65536 := ⟨_, rfl⟩
    obtain ⟨z, hz⟩ : ∃ z : Nat, z = s ^^^ 4129 := ⟨_, rfl⟩
    have e0 : IntKind.u16.wrap ((x : Int) * 2) = (s : Int) := by rw [shl1_16, hs]
    have e1 : bits .xor .u16 (s : Int) 4129 = (z : Int) := by
      have := u16_xor_nat s 4129 (by omega) (by decide); rw [hz]; exact this
    have e : up x = z := by unfold up; rw [if_pos h, hz, hs]
    rw [e]
    clear hz e hs
    go_enter Tryd.func47, Tryd.ntmps47
    go_wp2
    go_ret
    exact ⟨rfl, rfl⟩
  · have e : up x = x * 2 := by rw [up_small (by omega)]; omega
    have h1 : decide ((32768 : Int) ≤ (x : Int)) = false := by simp; omega
    have h2 : (x : Int) < 32768 := by omega
    rw [e]
    clear e h
    go_enter Tryd.func47, Tryd.ntmps47
    go_wp2
    go_ret
    exact ⟨rfl, rfl⟩

theorem rbyte32_any (r b : Nat) (hr : r < 4294967296) (hb : b < 256) (w : World) :
    Calls Tryd.prog 37 #[.int .u32 r, .int .u8 b] w fun e w' => e = .returned (.int .u32 (byte32 r b : Nat)) ∧ w = w' := by
  obtain ⟨x, hx⟩ : ∃ x : Nat, x = r ^^^ b := ⟨_, rfl⟩
  have hx32 : x < 4294967296 := by rw [hx]; exact Nat.xor_lt_two_pow (n := 32) hr (by omega)
  have e1 : bits .xor .u32 (r : Int) (b : Int) = (x : Int) := by rw [hx]; exact u32_xor_nat r b hr (by omega)
  have hfin : byte32 r b = iter down 8 x := by rw [hx]; rfl
  rw [hfin]
  clear hx hfin
  go_enter Tryd.func37, Tryd.ntmps37
  go_wp2_with fail
  go_loop [0, 5] (fun r i => ∃ k q : Nat, k ≤ 8 ∧ i = .int .i64 k ∧ r = .int .u32 q ∧ Hid (q = iter down k x) ∧ q < 4294967296) (fun _ i => 8 - (intOf i).toNat)
  case atStart => exact ⟨0, x, by omega, rfl, rfl, rfl, hx32⟩
  case round =>
    obtain ⟨k, q, hk, rfl, rfl, hq, hq32⟩ := hrel
    by_cases hlt : k < 8
    · go_wp2_with (go_at_call 46; refine (rdown_any _ hq32 _).mono ?_; rintro e w' ⟨rfl, rfl⟩)
      go_round
      case rel => exact ⟨k + 1, down q, by omega, by go_num, rfl, by
          show down q = iter down (k + 1) x
          rw [iter_succ', ← hq.out], down_lt hq32⟩
      case measure => simp [intOf]; omega
    · go_wp2_with fail
      go_ret
      obtain rfl : k = 8 := by omega
      exact ⟨ret_u32 (by rw [hq.out]), rfl⟩

theorem rbyte16_any (r b : Nat) (hr : r < 65536) (hb : b < 256) (w : World) :
    Calls Tryd.prog 38 #[.int .u16 r, .int .u8 b] w fun e w' => e = .returned (.int .u16 (byte16 r b : Nat)) ∧ w = w' := by
  obtain ⟨x, hx⟩ : ∃ x : Nat, x = r ^^^ (b * 256) := ⟨_, rfl⟩
  have hx16 : x < 65536 := by rw [hx]; exact Nat.xor_lt_two_pow (n := 16) hr (by omega)
  have e1 : bits .xor .u16 (r : Int) ((b : Int) * 256) = (x : Int) := by
    have := u16_xor_nat r (b * 256) hr (by omega); rw [hx]; exact this
  have hfin : byte16 r b = iter up 8 x := by rw [hx]; rfl
  rw [hfin]
  clear hx hfin
  go_enter Tryd.func38, Tryd.ntmps38
  go_wp2_with fail
  go_loop [0, 5] (fun r i => ∃ k q : Nat, k ≤ 8 ∧ i = .int .i64 k ∧ r = .int .u16 q ∧ Hid (q = iter up k x) ∧ q < 65536) (fun _ i => 8 - (intOf i).toNat)
  case atStart => exact ⟨0, x, by omega, rfl, rfl, rfl, hx16⟩
  case round =>
    obtain ⟨k, q, hk, rfl, rfl, hq, hq16⟩ := hrel
    by_cases hlt : k < 8
    · go_wp2_with (go_at_call 47; refine (rup_any _ hq16 _).mono ?_; rintro e w' ⟨rfl, rfl⟩)
      go_round
      case rel => exact ⟨k + 1, up q, by omega, by go_num, rfl, by
          show up q = iter up (k + 1) x
          rw [iter_succ', ← hq.out], up_lt⟩
      case measure => simp [intOf]; omega
    · go_wp2_with fail
      go_ret
      obtain rfl : k = 8 := by omega
      exact ⟨ret_u16 (by rw [hq.out]), rfl⟩

theorem rcrc32_any (s : ByteArray) (hs : s.size ≤ 9223372036854775807) (w : World) :
    Calls Tryd.prog 18 #[.string s] w fun e w' => e = .returned (.int .u32 (crc32 s.data.toList : Nat)) ∧ w = w' := by
  go_enter Tryd.func18, Tryd.ntmps18
  go_wp2_with fail
  go_loop [3, 4] (fun r i => ∃ k q : Nat, k ≤ s.size ∧ i = .int .i64 k ∧ r = .int .u32 q ∧ Hid (q = reg32 4294967295 (s.data.toList.take k)) ∧ q < 4294967296) (fun _ i => s.size - (intOf i).toNat)
  case atStart => exact ⟨0, 4294967295, Nat.zero_le _, rfl, rfl, by simp [Hid, reg32], by decide⟩
  case round =>
    obtain ⟨k, q, hk, rfl, rfl, hq, hq32⟩ := hrel
    by_cases hlt : k < s.size
    · go_wp2_with (go_at_call 37; refine (rbyte32_any _ _ hq32 (u8lt _) _).mono ?_; rintro e w' ⟨rfl, rfl⟩)
      go_round
      case rel => exact ⟨k + 1, byte32 q s[k].toNat, by omega, by go_num, rfl, by
        have := hq.out
        show _ = _
        rw [take_snoc' s k hlt, reg32_append, ← this]; rfl, byte32_lt hq32 (u8lt _)⟩
      case measure => simp [intOf]; omega
    · go_wp2_with fail
      go_ret
      refine ⟨ret_u32 ?_, rfl⟩
      have := hq.out
      rw [List.take_of_length_le (by simp; omega)] at this
      have e := u32_xor_nat q 4294967295 hq32 (by decide)
      rw [this] at e ⊢
      exact e

theorem rcrc16_any (s : ByteArray) (hs : s.size ≤ 9223372036854775807) (w : World) :
    Calls Tryd.prog 19 #[.string s] w fun e w' => e = .returned (.int .u16 (crc16 s.data.toList : Nat)) ∧ w = w' := by
  go_enter Tryd.func19, Tryd.ntmps19
  go_wp2_with fail
  go_loop [3, 4] (fun r i => ∃ k q : Nat, k ≤ s.size ∧ i = .int .i64 k ∧ r = .int .u16 q ∧ Hid (q = reg16 65535 (s.data.toList.take k)) ∧ q < 65536) (fun _ i => s.size - (intOf i).toNat)
  case atStart => exact ⟨0, 65535, Nat.zero_le _, rfl, rfl, by simp [Hid, reg16], by decide⟩
  case round =>
    obtain ⟨k, q, hk, rfl, rfl, hq, hq16⟩ := hrel
    by_cases hlt : k < s.size
    · go_wp2_with (go_at_call 38; refine (rbyte16_any _ _ hq16 (u8lt _) _).mono ?_; rintro e w' ⟨rfl, rfl⟩)
      go_round
      case rel => exact ⟨k + 1, byte16 q s[k].toNat, by omega, by go_num, rfl, by
        have := hq.out
        show _ = _
        rw [take_snoc' s k hlt, reg16_snoc, ← this], byte16_lt hq16 (u8lt _)⟩
      case measure => simp [intOf]; omega
    · go_wp2_with fail
      go_ret
      refine ⟨ret_u16 ?_, rfl⟩
      have := hq.out
      rw [List.take_of_length_le (by simp; omega)] at this
      rw [this]; rfl

/-- A number as n bytes, the great end first. -/
def rbytes (x : Nat) : Nat → List UInt8
  | 0 => []
  | n + 1 => rbytes (x / 256) n ++ [UInt8.ofNat x]
theorem rbytes4 (x : Nat) : rbytes x 4 = text32 x := by
  simp [rbytes, text32, Nat.div_div_eq_div_mul]
theorem rbytes2 (x : Nat) : rbytes x 2 = text16 x := by simp [rbytes, text16]
theorem rbytes_len (n : Nat) : ∀ x, (rbytes x n).length = n := by
  induction n with
  | zero => intro x; rfl
  | succ n ih => intro x; simp [rbytes, ih]

theorem rbytes_any (n : Nat) : ∀ (x : Nat) (w : World), x < 4294967296 → n ≤ 4 →
    Calls Tryd.prog 40 #[.int .u32 x, .int .i64 n] w fun e w' => e = .returned (.string ⟨(rbytes x n).toArray⟩) ∧ Below w.heap.size w w' := by
  induction n with
  | zero =>
    intro x w hx hn
    go_enter Tryd.func40, Tryd.ntmps40
    go_wp2_with fail
    go_ret
    exact ⟨rfl, Below.refl _ _⟩
  | succ n ih =>
    intro x w hx hn
    have hn0 : ((n : Int) + 1 == 0) = false := by simp; omega
    obtain ⟨y, hy⟩ : ∃ y : Nat, y = x / 256 := ⟨_, rfl⟩
    obtain ⟨c, hc⟩ : ∃ c : Nat, c = x % 256 := ⟨_, rfl⟩
    have e1 : (x : Int) / 256 = (y : Int) := by omega
    have e2 : IntKind.u32.wrap (y : Int) = (y : Int) := by rw [IntKind.wrap_u32']; omega
    have e3 : IntKind.i64.wrap (n : Int) = (n : Int) := IntWalk.i64_in _ (by omega)
    have e4 : (x : Int).tmod 256 = (c : Int) := by rw [Int.tmod_eq_emod_of_nonneg (by omega)]; omega
    have hc256 : c < 256 := by omega
    have hcv := one_string c hc256
    have hcv2 := one_string_d c hc256
    have e5 : IntKind.u8.wrap (c : Int) = (c : Int) := by rw [IntKind.wrap_u8']; omega
    obtain ⟨b1, hb1⟩ : ∃ b : ByteArray, b = ⟨(rbytes y n).toArray⟩ := ⟨_, rfl⟩
    obtain ⟨b2, hb2⟩ : ∃ b : ByteArray, b = ⟨#[UInt8.ofNat c]⟩ := ⟨_, rfl⟩
    have hs1 : b1.size = n := by rw [hb1]; show (rbytes y n).toArray.size = n; simp [rbytes_len]
    have hs2 : b2.size = 1 := by rw [hb2]; rfl
    rw [← hb2] at hcv hcv2
    have hadd := run_string_add_sum (P := Tryd.prog) (a := b1) (b := b2) (h := by omega)
    have ih' : ∀ w, Calls Tryd.prog 40 #[.int .u32 (y : Int), .int .i64 (n : Int)] w fun e w' => e = .returned (.string b1) ∧ Below w.heap.size w w' := fun w => by rw [hb1]; exact ih y w (by omega) (by omega)
    have hfin : (⟨(rbytes x (n + 1)).toArray⟩ : ByteArray) = b1 ++ b2 := by
      rw [hb1, hb2, seal_join (⟨(rbytes y n).toArray⟩ : ByteArray) [UInt8.ofNat c]]
      simp only [rbytes, hy]
      rw [ofNat_mod x c (by omega)]
    rw [hfin]
    have IH := Lib.hid ih'
    have HB2 := Lib.hid hb2
    clear ih' ih hy hc hb1 hb2 hfin hs1 hs2
    go_enter Tryd.func40, Tryd.ntmps40
    go_wp2_with fail
    go_region_with (go_at_call 40; refine (IH.out _).mono ?_; rintro e w' ⟨rfl, hb⟩; try (have hcw := one_string_dr (w := w) hc256 hb rfl; rw [← HB2.out] at hcw))
    all_goals (go_wp2; go_ret)
    all_goals refine ⟨rfl, ?_⟩
    all_goals first
      | exact (((Below.refl _ _).drew).trans hb).alloc hb.size _
      | exact (((Below.refl _ _).alloc (Nat.le_refl _) _).drew).trans (hb.mono (by simp))

theorem rseal32_any (s : ByteArray) (hs : s.size ≤ 140737488351232) (w : World) :
    Calls Tryd.prog 21 #[.string s] w fun e w' => e = .returned (.string ⟨(seal32 s.data.toList).toArray⟩) ∧ Below w.heap.size w w' := by
  have hc := crc32_lt s.data.toList
  unfold seal32
  rw [← seal_join]
  obtain ⟨c, hc'⟩ : ∃ c, c = crc32 s.data.toList := ⟨_, rfl⟩
  rw [← hc'] at hc ⊢
  obtain ⟨t, ht⟩ : ∃ t : ByteArray, t = ⟨(text32 c).toArray⟩ := ⟨_, rfl⟩
  have hsz : t.size = 4 := by rw [ht]; rfl
  rw [← ht]
  have HC := Lib.hid hc'; clear hc'
  have HTT := Lib.hid ht; clear ht
  have hadd := run_string_add_sum (P := Tryd.prog) (a := s) (b := t) (h := by omega)
  go_enter Tryd.func21, Tryd.ntmps21
  go_wp2_with fail
  refine (rcrc32_any s (by omega) _).mono ?_
  rw [← HC.out]
  rintro e w' ⟨rfl, rfl⟩
  go_wp2_with fail
  refine (rbytes_any 4 c _ hc (by omega)).mono ?_
  rw [rbytes4, ← HTT.out]
  rintro e w' ⟨rfl, hb⟩
  go_wp2
  go_ret
  exact ⟨rfl, hb⟩

theorem rseal16_any (s : ByteArray) (hs : s.size ≤ 140737488351232) (w : World) :
    Calls Tryd.prog 23 #[.string s] w fun e w' => e = .returned (.string ⟨(seal16 s.data.toList).toArray⟩) ∧ Below w.heap.size w w' := by
  have hc := crc16_lt s.data.toList
  unfold seal16
  rw [← seal_join]
  obtain ⟨c, hc'⟩ : ∃ c, c = crc16 s.data.toList := ⟨_, rfl⟩
  rw [← hc'] at hc ⊢
  obtain ⟨t, ht⟩ : ∃ t : ByteArray, t = ⟨(text16 c).toArray⟩ := ⟨_, rfl⟩
  have hsz : t.size = 2 := by rw [ht]; rfl
  rw [← ht]
  have HC := Lib.hid hc'; clear hc'
  have HTT := Lib.hid ht; clear ht
  have hadd := run_string_add_sum (P := Tryd.prog) (a := s) (b := t) (h := by omega)
  go_enter Tryd.func23, Tryd.ntmps23
  go_wp2_with fail
  refine (rcrc16_any s (by omega) _).mono ?_
  rw [← HC.out]
  rintro e w' ⟨rfl, rfl⟩
  go_wp2_with fail
  refine (rbytes_any 2 c _ (by omega) (by omega)).mono ?_
  rw [rbytes2, ← HTT.out]
  rintro e w' ⟨rfl, hb⟩
  go_wp2
  go_ret
  exact ⟨rfl, hb⟩

theorem seal_eq {T : List UInt8} (s : ByteArray) (n : Nat) : ((s.data.toList.take n ++ T) == s.toList) = (T == s.data.toList.drop n) := by
  rw [bytes_toList]
  rw [Bool.eq_iff_iff, beq_iff_eq, beq_iff_eq]
  constructor
  · intro h
    have h2 : s.data.toList.take n ++ T = s.data.toList.take n ++ s.data.toList.drop n := by rw [h, List.take_append_drop]
    exact List.append_cancel_left h2
  · rintro rfl; exact List.take_append_drop _ _

theorem rOpen32_any (s : ByteArray) (hs : s.size ≤ 140737488351232) (w : World) :
    Calls Tryd.prog 15 #[.string s] w fun e w' =>
      e = .returned (.tuple #[.string ⟨(open32 s.data.toList).1.toArray⟩, .int .i64 ((open32 s.data.toList).2 : Nat)]) ∧ Below w.heap.size w w' := by
  by_cases h4 : s.size < 4
  · have h4' : (s.size : Int) - 4 < 0 := by omega
    unfold open32
    rw [openL_short (by simpa using h4)]
    go_enter Tryd.func15, Tryd.ntmps15
    go_wp2_with fail
    go_ret2
    exact ⟨rfl, Below.refl _ _⟩
  · obtain ⟨n, hn⟩ : ∃ n, s.size = n + 4 := ⟨s.size - 4, by omega⟩
    have hl : s.data.toList.length = n + 4 := by simpa using hn
    have hN : (s.size : Int) - 4 = (n : Int) := by omega
    have h1 : (n : Int) ≤ s.size := by omega
    have h2 : n ≤ s.size := by omega
    have HL := Lib.hid hl; clear hl hn h4
    have hx := extract_le s 0 n
    have hse := seal_eq (T := text32 (crc32 (s.data.toList.take n))) s n
    have hS := rseal32_any (s.extract 0 n) (by omega)
    have hun : (seal32 (s.extract 0 n).data.toList) = s.data.toList.take n ++ text32 (crc32 (s.data.toList.take n)) := by rw [extract_take]; rfl
    rw [hun] at hS
    obtain ⟨t, ht⟩ : ∃ t : ByteArray, t = ⟨(s.data.toList.take n ++ text32 (crc32 (s.data.toList.take n))).toArray⟩ := ⟨_, rfl⟩
    rw [← ht] at hS
    have hbt : t.toList = s.data.toList.take n ++ text32 (crc32 (s.data.toList.take n)) := by rw [bytes_toList, ht]
    rw [← hbt] at hse
    have HS := Lib.hid hS
    clear hS hun hx hbt ht
    cases hq : text32 (crc32 (List.take n s.data.toList)) == s.data.toList.drop n with
    | true =>
      unfold open32
      rw [openL_ok HL.out hq, ← extract_take]
      rw [hq] at hse
      clear hq
      go_enter Tryd.func15, Tryd.ntmps15
      go_wp2_with (go_at_call 21; refine (HS.out _).mono ?_; rintro e w' ⟨rfl, hb⟩)
      go_ret2
      exact ⟨rfl, hb⟩
    | false =>
      unfold open32
      rw [openL_sum HL.out hq]
      rw [hq] at hse
      clear hq
      go_enter Tryd.func15, Tryd.ntmps15
      go_wp2_with (go_at_call 21; refine (HS.out _).mono ?_; rintro e w' ⟨rfl, hb⟩)
      go_ret2
      exact ⟨rfl, hb⟩

theorem rOpen16_any (s : ByteArray) (hs : s.size ≤ 140737488351232) (w : World) :
    Calls Tryd.prog 17 #[.string s] w fun e w' =>
      e = .returned (.tuple #[.string ⟨(open16 s.data.toList).1.toArray⟩, .int .i64 ((open16 s.data.toList).2 : Nat)]) ∧ Below w.heap.size w w' := by
  by_cases h4 : s.size < 2
  · have h4' : (s.size : Int) - 2 < 0 := by omega
    unfold open16
    rw [openL_short (by simpa using h4)]
    go_enter Tryd.func17, Tryd.ntmps17
    go_wp2_with fail
    go_ret2
    exact ⟨rfl, Below.refl _ _⟩
  · obtain ⟨n, hn⟩ : ∃ n, s.size = n + 2 := ⟨s.size - 2, by omega⟩
    have hl : s.data.toList.length = n + 2 := by simpa using hn
    have hN : (s.size : Int) - 2 = (n : Int) := by omega
    have h1 : (n : Int) ≤ s.size := by omega
    have h2 : n ≤ s.size := by omega
    have HL := Lib.hid hl; clear hl hn h4
    have hx := extract_le s 0 n
    have hse := seal_eq (T := text16 (crc16 (s.data.toList.take n))) s n
    have hS := rseal16_any (s.extract 0 n) (by omega)
    have hun : (seal16 (s.extract 0 n).data.toList) = s.data.toList.take n ++ text16 (crc16 (s.data.toList.take n)) := by rw [extract_take]; rfl
    rw [hun] at hS
    obtain ⟨t, ht⟩ : ∃ t : ByteArray, t = ⟨(s.data.toList.take n ++ text16 (crc16 (s.data.toList.take n))).toArray⟩ := ⟨_, rfl⟩
    rw [← ht] at hS
    have hbt : t.toList = s.data.toList.take n ++ text16 (crc16 (s.data.toList.take n)) := by rw [bytes_toList, ht]
    rw [← hbt] at hse
    have HS := Lib.hid hS
    clear hS hun hx hbt ht
    cases hq : text16 (crc16 (List.take n s.data.toList)) == s.data.toList.drop n with
    | true =>
      unfold open16
      rw [openL_ok HL.out hq, ← extract_take]
      rw [hq] at hse
      clear hq
      go_enter Tryd.func17, Tryd.ntmps17
      go_wp2_with (go_at_call 23; refine (HS.out _).mono ?_; rintro e w' ⟨rfl, hb⟩)
      go_ret2
      exact ⟨rfl, hb⟩
    | false =>
      unfold open16
      rw [openL_sum HL.out hq]
      rw [hq] at hse
      clear hq
      go_enter Tryd.func17, Tryd.ntmps17
      go_wp2_with (go_at_call 23; refine (HS.out _).mono ?_; rintro e w' ⟨rfl, hb⟩)
      go_ret2
      exact ⟨rfl, hb⟩
end Go.Proofs.YtkgenpoenpkpeaaDoor
