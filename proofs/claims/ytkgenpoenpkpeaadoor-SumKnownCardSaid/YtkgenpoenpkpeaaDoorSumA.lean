/- The walks of the program's own functions of chapter 2 (sum): the registers' steps, the sums, the texts of sums. -/
import Derived.Test.YtkgenpoenpkpeaaDoorProg
import Derived.Test.YtkgenpoenpkpeaaDoorSumPlain
import Derived.Handy
import Derived.Outline
import Derived.Lib.Hide
namespace Go.Proofs.YtkgenpoenpkpeaaDoor
open Go.RowKit Sum2

/-- The program's table of sixteen registers lies in its block. -/
def Tab (w : World) : Prop := ∀ k, k < 16 → w.cell? ⟨0, k, none⟩ = some (.int .u32 ((tab[k]?.getD 0 : Nat) : Int))

theorem ret_u32 {a b : Int} (h : a = b) : Ending.returned (.int .u32 a) = .returned (.int .u32 b) := by rw [h]
theorem ret_u16 {a b : Int} (h : a = b) : Ending.returned (.int .u16 a) = .returned (.int .u16 b) := by rw [h]
theorem take_snoc' (s : ByteArray) (k : Nat) (h : k < s.size) : s.data.toList.take (k + 1) = s.data.toList.take k ++ [s[k]] := by
  rw [List.take_succ_eq_append_getElem (by simpa using h)]; rfl

theorem byte32_any (r b : Nat) (hr : r < 4294967296) (hb : b < 256) (w : World) (ht : Tab w) :
    Calls Tryd.prog 33 #[.int .u32 r, .int .u8 b] w fun e w' => e = .returned (.int .u32 (byte32 r b : Nat)) ∧ w = w' := by
  obtain ⟨x, hx⟩ : ∃ x : Nat, x = r ^^^ b := ⟨_, rfl⟩
  have hx32 : x < 4294967296 := by rw [hx]; exact Nat.xor_lt_two_pow (n := 32) hr (by omega)
  obtain ⟨k1, hk1⟩ : ∃ k : Nat, k = x % 16 := ⟨_, rfl⟩
  have hk1' : k1 < 16 := by omega
  obtain ⟨t1, ht1⟩ : ∃ t : Nat, t = tab[k1]?.getD 0 := ⟨_, rfl⟩
  have htab : ∀ k, k < 16 → tab[k]?.getD 0 < 4294967296 := by decide
  obtain ⟨y, hy⟩ : ∃ y : Nat, y = (x / 16) ^^^ t1 := ⟨_, rfl⟩
  have ht1' : t1 < 4294967296 := by rw [ht1]; exact htab _ hk1'
  have hy32 : y < 4294967296 := by rw [hy]; exact Nat.xor_lt_two_pow (n := 32) (by omega) ht1'
  obtain ⟨k2, hk2⟩ : ∃ k : Nat, k = y % 16 := ⟨_, rfl⟩
  have hk2' : k2 < 16 := by omega
  obtain ⟨t2, ht2⟩ : ∃ t : Nat, t = tab[k2]?.getD 0 := ⟨_, rfl⟩
  have ht2' : t2 < 4294967296 := by rw [ht2]; exact htab _ hk2'
  obtain ⟨z, hz⟩ : ∃ z : Nat, z = (y / 16) ^^^ t2 := ⟨_, rfl⟩
  have hfin : byte32 r b = z := by rw [byte32_tab, ← hx, ← hk1, ← ht1, ← hy, ← hk2, ← ht2, hz]
  have e1 : bits .xor .u32 (r : Int) (b : Int) = (x : Int) := by rw [hx]; exact u32_xor_nat r b hr (by omega)
  have e2 : bits .and .u32 (x : Int) 15 = (k1 : Int) := by
    have := u32_and_nat x 15 hx32 (by decide); rw [nat_mask4] at this; rw [hk1]; exact this
  have c1 : w.cell? ⟨0, k1, none⟩ = some (.int .u32 (t1 : Int)) := by rw [ht1]; exact ht k1 hk1'
  have e3 : bits .xor .u32 ((x : Int) / 16) (t1 : Int) = (y : Int) := by
    have := u32_xor_nat (x / 16) t1 (by omega) ht1'; rw [hy]; exact this
  have e4 : bits .and .u32 (y : Int) 15 = (k2 : Int) := by
    have := u32_and_nat y 15 hy32 (by decide); rw [nat_mask4] at this; rw [hk2]; exact this
  have c2 : w.cell? ⟨0, k2, none⟩ = some (.int .u32 (t2 : Int)) := by rw [ht2]; exact ht k2 hk2'
  have e5 : bits .xor .u32 ((y : Int) / 16) (t2 : Int) = (z : Int) := by
    have := u32_xor_nat (y / 16) t2 (by omega) ht2'; rw [hz]; exact this
  rw [hfin]
  clear hx hk1 ht1 hy hk2 ht2 hz ht htab hfin
  go_enter Tryd.func33, Tryd.ntmps33
  go_wp2
  go_ret
  exact ⟨rfl, rfl⟩

theorem crc32_any (s : ByteArray) (hs : s.size ≤ 9223372036854775807) (w : World) (ht : Tab w) :
    Calls Tryd.prog 12 #[.string s] w fun e w' => e = .returned (.int .u32 (crc32 s.data.toList : Nat)) ∧ w = w' := by
  have HT := Lib.hid ht; clear ht
  go_enter Tryd.func12, Tryd.ntmps12
  go_wp2_with fail
  go_loop [3, 7] (fun r i => ∃ k q : Nat, k ≤ s.size ∧ i = .int .i64 k ∧ r = .int .u32 q ∧ Hid (q = reg32 4294967295 (s.data.toList.take k)) ∧ q < 4294967296) (fun _ i => s.size - (intOf i).toNat)
  case atStart => exact ⟨0, 4294967295, Nat.zero_le _, rfl, rfl, by simp [Hid, reg32], by decide⟩
  case round =>
    obtain ⟨k, q, hk, rfl, rfl, hq, hq32⟩ := hrel
    by_cases hlt : k < s.size
    · go_wp2_with (go_at_call 33; refine (byte32_any _ _ hq32 (u8lt _) _ HT.out).mono ?_; rintro e w' ⟨rfl, rfl⟩)
      go_round
      case rel => exact ⟨k + 1, byte32 q s[k].toNat, by omega, by go_num, rfl, by
        have := hq.out
        show _ = _
        rw [take_snoc' s k hlt, reg32_append, ← this]; rfl, byte32_lt hq32 (u8lt _)⟩
      case measure => simp [intOf]; omega
    · go_wp2_with fail
      go_ret
      refine ⟨ret_u32 ?_, rfl⟩
      have := hq.out
      rw [List.take_of_length_le (by simp; omega)] at this
      rw [show IntKind.u32.max = ((4294967295 : Nat) : Int) from by decide, u32_xor_nat _ _ (by decide) hq32, this, Nat.xor_comm]
      rfl

theorem and_top16 (q : Nat) (hq : q < 65536) : bits .and .u16 (q : Int) 32768 = if 32768 ≤ q then 32768 else 0 := by
  have := u16_and_nat q 32768 hq (by decide)
  have e : q &&& 32768 = if 32768 ≤ q then 32768 else 0 := by
    rw [show (32768 : Nat) = 2 ^ 15 from rfl, nat_bit]
    split <;> omega
  rw [show ((32768 : Int)) = ((32768 : Nat) : Int) from rfl, this, e]
  split <;> rfl
theorem shl1_16 (q : Nat) : IntKind.u16.wrap ((q : Int) * 2) = ((2 * q % 65536 : Nat) : Int) := by rw [IntKind.wrap_u16]; omega

theorem byte16_any (r b : Nat) (hr : r < 65536) (hb : b < 256) (w : World) :
    Calls Tryd.prog 34 #[.int .u16 r, .int .u8 b] w fun e w' => e = .returned (.int .u16 (byte16 r b : Nat)) ∧ w = w' := by
  obtain ⟨x, hx⟩ : ∃ x : Nat, x = r ^^^ (b * 256) := ⟨_, rfl⟩
  have hx16 : x < 65536 := by rw [hx]; exact Nat.xor_lt_two_pow (n := 16) hr (by omega)
  have e1 : bits .xor .u16 (r : Int) ((b : Int) * 256) = (x : Int) := by
    have := u16_xor_nat r (b * 256) hr (by omega); rw [hx]; exact this
  have hfin : byte16 r b = iter up 8 x := by rw [hx]; rfl
  rw [hfin]
  clear hx hfin
  go_enter Tryd.func34, Tryd.ntmps34
  go_wp2_with fail
  go_loop [0, 11] (fun r i => ∃ k q : Nat, k ≤ 8 ∧ i = .int .i64 k ∧ r = .int .u16 q ∧ Hid (q = iter up k x) ∧ q < 65536) (fun _ i => 8 - (intOf i).toNat)
  case atStart => exact ⟨0, x, by omega, rfl, rfl, rfl, hx16⟩
  case round =>
    obtain ⟨k, q, hk, rfl, rfl, hq, hq16⟩ := hrel
    have ea := and_top16 q hq16
    have hs := shl1_16 q
    by_cases hlt : k < 8
    · by_cases hh : 32768 ≤ q
      · rw [if_pos hh] at ea
        obtain ⟨s, hs'⟩ : ∃ s : Nat, s = 2 * q % 65536 := ⟨_, rfl⟩
        obtain ⟨z, hz⟩ : ∃ z : Nat, z = s ^^^ 4129 := ⟨_, rfl⟩
        have hs16 : s < 65536 := by omega
        have ez : bits .xor .u16 (s : Int) 4129 = (z : Int) := by rw [hz]; exact u16_xor_nat s 4129 hs16 (by decide)
        have hup : up q = z := by unfold up; rw [if_pos hh, hz, hs']
        have HU := Lib.hid hup
        rw [← hs'] at hs
        clear hs' hz hup
        go_wp2
        go_round
        case rel => exact ⟨k + 1, z, by omega, by go_num, rfl, by
          show z = iter up (k + 1) x
          rw [iter_succ', ← hq.out, HU.out], by rw [← HU.out]; exact up_lt⟩
        case measure => simp [intOf]; omega
      · rw [if_neg hh] at ea
        have hup : up q = q * 2 := by unfold up; rw [if_neg hh]; omega
        have HU := Lib.hid hup
        clear hs hup
        go_wp2
        go_round
        case rel => exact ⟨k + 1, q * 2, by omega, by go_num, by go_num, by
          show q * 2 = iter up (k + 1) x
          rw [iter_succ', ← hq.out, HU.out], by rw [← HU.out]; exact up_lt⟩
        case measure => simp [intOf]; omega
    · go_wp2_with fail
      go_ret
      obtain rfl : k = 8 := by omega
      exact ⟨ret_u16 (by rw [hq.out]), rfl⟩
theorem crc16_any (s : ByteArray) (hs : s.size ≤ 9223372036854775807) (w : World) :
    Calls Tryd.prog 13 #[.string s] w fun e w' => e = .returned (.int .u16 (crc16 s.data.toList : Nat)) ∧ w = w' := by
  go_enter Tryd.func13, Tryd.ntmps13
  go_wp2_with fail
  go_loop [3, 7] (fun r i => ∃ k q : Nat, k ≤ s.size ∧ i = .int .i64 k ∧ r = .int .u16 q ∧ Hid (q = reg16 65535 (s.data.toList.take k)) ∧ q < 65536) (fun _ i => s.size - (intOf i).toNat)
  case atStart => exact ⟨0, 65535, Nat.zero_le _, rfl, rfl, by simp [Hid, reg16], by decide⟩
  case round =>
    obtain ⟨k, q, hk, rfl, rfl, hq, hq16⟩ := hrel
    by_cases hlt : k < s.size
    · go_wp2_with (go_at_call 34; refine (byte16_any _ _ hq16 (u8lt _) _).mono ?_; rintro e w' ⟨rfl, rfl⟩)
      go_round
      case rel => exact ⟨k + 1, byte16 q s[k].toNat, by omega, by go_num, rfl, by
        have := hq.out
        show _ = _
        rw [take_snoc' s k hlt, reg16_snoc, ← this], byte16_lt hq16 (u8lt _)⟩
      case measure => simp [intOf]; omega
    · go_wp2_with fail
      go_ret
      refine ⟨ret_u16 ?_, rfl⟩
      have := hq.out
      rw [List.take_of_length_le (by simp; omega)] at this
      rw [this]; rfl

set_option maxRecDepth 100000 in
theorem size32_any (x : Int) (w : World) : Calls Tryd.prog 44 #[.int .u32 x] w fun e w' => e = .returned (.int .i64 4) ∧ w = w' := by
  obtain ⟨m, hm, h1, h2⟩ : ∃ m : Int, bits .xor .u32 (if IntKind.u32.signed = true then (-1 : Int) else IntKind.u32.max) 0 = m ∧ 65536 < m ∧ m < 4294967296 := ⟨_, rfl, by decide, by decide⟩
  go_enter Tryd.func44, Tryd.ntmps44
  go_wp2
  go_ret
  exact ⟨rfl, rfl⟩
theorem size16_any (x : Int) (w : World) : Calls Tryd.prog 45 #[.int .u16 x] w fun e w' => e = .returned (.int .i64 2) ∧ w = w' := by
  go_enter Tryd.func45, Tryd.ntmps45
  go_wp2
  go_ret
  exact ⟨rfl, rfl⟩
end Go.Proofs.YtkgenpoenpkpeaaDoor
