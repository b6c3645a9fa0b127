/- The walks of CRC32 of chapter 2 (sum), of the program's and of the reference's. -/
import Derived.Test.YthhghggaoljcbaaDoorKitAll
import Derived.Test.YthhghggaoljcbaaDoorSumPlain
import Derived.Handy
import Derived.Outline
import Derived.Lib.Hide
import Derived.WalkSpells
import Derived.Deep.RegionHeld3
import Derived.Deep.DeepMust
import Derived.Deep.RegionWith
namespace Go.Proofs.YthhghggaoljcbaaDoor
open Go.RowKit Sum2

/-- The program's table of sixteen registers lies in its block. -/
def Tab (w : World) : Prop := ∀ k, k < 16 → w.cell? ⟨0, k, none⟩ = some (.int .u32 ((tab[k]?.getD 0 : Nat) : Int))

theorem ret_u32 {a b : Int} (h : a = b) : Ending.returned (.int .u32 a) = .returned (.int .u32 b) := by rw [h]
theorem take_snoc' (s : ByteArray) (k : Nat) (h : k < s.size) : s.data.toList.take (k + 1) = s.data.toList.take k ++ [s[k]] := by
  rw [List.take_succ_eq_append_getElem (by simpa using h)]; rfl

theorem byte32_any (r b : Nat) (hr : r < 4294967296) (hb : b < 256) (w : World) (ht : Tab w) :
    Calls Tryd.prog 97 #[.int .u32 r, .int .u8 b] w fun e w' => e = .returned (.int .u32 (byte32 r b : Nat)) ∧ w = w' := by
  obtain ⟨x, hx⟩ : ∃ x : Nat, x = r ^^^ b := ⟨_, rfl⟩
  have hx32 : x < 4294967296 := by rw [hx]; exact Nat.xor_lt_two_pow (n := 32) hr (by omega)
  obtain ⟨k1, hk1⟩ : ∃ k : Nat, k = x % 16 := ⟨_, rfl⟩
  have hk1' : k1 < 16 := by omega
  obtain ⟨t1, ht1⟩ : ∃ t : Nat, t = tab[k1]?.getD 0 := ⟨_, rfl⟩
  have htab : ∀ k, k < 16 → tab[k]?.getD 0 < 4294967296 := by decide
  obtain ⟨y, hy⟩ : ∃ y : Nat, y = (x / 16) ^^^ t1 := ⟨_, rfl⟩
  have ht1' : t1 < 4294967296 := by rw [ht1]; exact htab _ hk1'
  have hy32 : y < 4294967296 := by rw [hy]; exact Nat.xor_lt_two_pow (n := 32) (by omega) ht1'
  obtain ⟨k2, hk2⟩ : ∃ k : Nat, k = y % 16 := ⟨_, rfl⟩
  have hk2' : k2 < 16 := by omega
  obtain ⟨t2, ht2⟩ : ∃ t : Nat, t = tab[k2]?.getD 0 := ⟨_, rfl⟩
  have ht2' : t2 < 4294967296 := by rw [ht2]; exact htab _ hk2'
  obtain ⟨z, hz⟩ : ∃ z : Nat, z = (y / 16) ^^^ t2 := ⟨_, rfl⟩
  have hfin : byte32 r b = z := by rw [byte32_tab, ← hx, ← hk1, ← ht1, ← hy, ← hk2, ← ht2, hz]
  have e1 : bits .xor .u32 (r : Int) (b : Int) = (x : Int) := by rw [hx]; exact u32_xor_nat r b hr (by omega)
  have e2 : bits .and .u32 (x : Int) 15 = (k1 : Int) := by
    have := u32_and_nat x 15 hx32 (by decide); rw [nat_mask4] at this; rw [hk1]; exact this
  have c1 : w.cell? ⟨0, k1, none⟩ = some (.int .u32 (t1 : Int)) := by rw [ht1]; exact ht k1 hk1'
  have e3 : bits .xor .u32 ((x : Int) / 16) (t1 : Int) = (y : Int) := by
    have := u32_xor_nat (x / 16) t1 (by omega) ht1'; rw [hy]; exact this
  have e4 : bits .and .u32 (y : Int) 15 = (k2 : Int) := by
    have := u32_and_nat y 15 hy32 (by decide); rw [nat_mask4] at this; rw [hk2]; exact this
  have c2 : w.cell? ⟨0, k2, none⟩ = some (.int .u32 (t2 : Int)) := by rw [ht2]; exact ht k2 hk2'
  have e5 : bits .xor .u32 ((y : Int) / 16) (t2 : Int) = (z : Int) := by
    have := u32_xor_nat (y / 16) t2 (by omega) ht2'; rw [hz]; exact this
  rw [hfin]
  clear hx hk1 ht1 hy hk2 ht2 hz ht htab hfin
  go_enter Tryd.func97, Tryd.ntmps97
  go_wp2
  go_ret
  exact ⟨rfl, rfl⟩

theorem crc32_any (s : ByteArray) (hs : s.size ≤ 9223372036854775807) (w : World) (ht : Tab w) :
    Calls Tryd.prog 75 #[.string s] w fun e w' => e = .returned (.int .u32 (crc32 s.data.toList : Nat)) ∧ w = w' := by
  have HT := Lib.hid ht; clear ht
  go_enter Tryd.func75, Tryd.ntmps75
  go_wp2_with fail
  go_loop [3, 7] (fun r i => ∃ k q : Nat, k ≤ s.size ∧ i = .int .i64 k ∧ r = .int .u32 q ∧ Hid (q = reg32 4294967295 (s.data.toList.take k)) ∧ q < 4294967296) (fun _ i => s.size - (intOf i).toNat)
  case atStart => exact ⟨0, 4294967295, Nat.zero_le _, rfl, rfl, by simp [Hid, reg32], by decide⟩
  case round =>
    obtain ⟨k, q, hk, rfl, rfl, hq, hq32⟩ := hrel
    by_cases hlt : k < s.size
    · go_wp2_with (go_at_call 97; refine (byte32_any _ _ hq32 (u8lt _) _ HT.out).mono ?_; rintro e w' ⟨rfl, rfl⟩)
      go_round
      case rel => exact ⟨k + 1, byte32 q s[k].toNat, by omega, by go_num, rfl, by
        have := hq.out
        show _ = _
        rw [take_snoc' s k hlt, reg32_append, ← this]; rfl, byte32_lt hq32 (u8lt _)⟩
      case measure => simp [intOf]; omega
    · go_wp2_with fail
      go_ret
      refine ⟨ret_u32 ?_, rfl⟩
      have := hq.out
      rw [List.take_of_length_le (by simp; omega)] at this
      rw [show IntKind.u32.max = ((4294967295 : Nat) : Int) from by decide, u32_xor_nat _ _ (by decide) hq32, this, Nat.xor_comm]
      rfl

theorem Tab.below {w w' : World} (h : Tab w) (hb : Below w.heap.size w w') : Tab w' := by
  intro k hk
  have h1 := h k hk
  have hlt : 0 < w.heap.size := by
    rcases Nat.lt_or_ge 0 w.heap.size with h | h
    · exact h
    · rw [World.cell?, Array.getElem?_eq_none h] at h1; cases h1
  rw [hb.cell hlt]; exact h1



theorem ofNat_mod (a b : Nat) (h : a % 256 = b % 256) : UInt8.ofNat a = UInt8.ofNat b := by
  apply UInt8.toNat_inj.1; rw [UInt8.toNat_ofNat', UInt8.toNat_ofNat']; exact h
theorem text32_0 {T : List UInt8} {x : Nat} (h : T = text32 x) {n : Int} (hn : n.toNat % 256 = x / 16777216 % 256) : T.take 0 ++ [UInt8.ofNat n.toNat] = T.take 1 := by subst h; rw [ofNat_mod _ _ hn]; rfl
theorem text32_1 {T : List UInt8} {x : Nat} (h : T = text32 x) {n : Int} (hn : n.toNat % 256 = x / 65536 % 256) : T.take 1 ++ [UInt8.ofNat n.toNat] = T.take 2 := by subst h; rw [ofNat_mod _ _ hn]; rfl
theorem text32_2 {T : List UInt8} {x : Nat} (h : T = text32 x) {n : Int} (hn : n.toNat % 256 = x / 256 % 256) : T.take 2 ++ [UInt8.ofNat n.toNat] = T.take 3 := by subst h; rw [ofNat_mod _ _ hn]; rfl
theorem text32_3 {T : List UInt8} {x : Nat} (h : T = text32 x) {n : Int} (hn : n.toNat % 256 = x % 256) : T.take 3 ++ [UInt8.ofNat n.toNat] = T.take 4 := by subst h; rw [ofNat_mod _ _ hn]; rfl
theorem rdown_any (x : Nat) (hx : x < 4294967296) (w : World) :
    Calls Tryd.prog 110 #[.int .u32 x] w fun e w' => e = .returned (.int .u32 (down x : Nat)) ∧ w = w' := by
  by_cases h : x % 2 = 1
  · have h1 : ((x : Int) % 2 == 1) = true := by simp; omega
    obtain ⟨z, hz⟩ : ∃ z : Nat, z = (x / 2) ^^^ 0x82F63B78 := ⟨_, rfl⟩
    have e1 : bits .xor .u32 ((x : Int) / 2) 2197175160 = (z : Int) := by
      have := u32_xor_nat (x / 2) 2197175160 (by omega) (by decide); rw [hz]; exact this
    have e : down x = z := by unfold down; rw [if_pos h, hz]
    rw [e]
    clear h hz e
    go_enter Tryd.func110, Tryd.ntmps110
    go_wp2
    go_ret
    exact ⟨rfl, rfl⟩
  · have h1 : ((x : Int) % 2 == 1) = false := by simp; omega
    have e : down x = x / 2 := by unfold down; rw [if_neg h]
    rw [e]
    clear h e
    go_enter Tryd.func110, Tryd.ntmps110
    go_wp2
    go_ret
    exact ⟨rfl, rfl⟩

theorem rbyte32_any (r b : Nat) (hr : r < 4294967296) (hb : b < 256) (w : World) :
    Calls Tryd.prog 99 #[.int .u32 r, .int .u8 b] w fun e w' => e = .returned (.int .u32 (byte32 r b : Nat)) ∧ w = w' := by
  obtain ⟨x, hx⟩ : ∃ x : Nat, x = r ^^^ b := ⟨_, rfl⟩
  have hx32 : x < 4294967296 := by rw [hx]; exact Nat.xor_lt_two_pow (n := 32) hr (by omega)
  have e1 : bits .xor .u32 (r : Int) (b : Int) = (x : Int) := by rw [hx]; exact u32_xor_nat r b hr (by omega)
  have hfin : byte32 r b = iter down 8 x := by rw [hx]; rfl
  rw [hfin]
  clear hx hfin
  go_enter Tryd.func99, Tryd.ntmps99
  go_wp2_with fail
  go_loop [0, 5] (fun r i => ∃ k q : Nat, k ≤ 8 ∧ i = .int .i64 k ∧ r = .int .u32 q ∧ Hid (q = iter down k x) ∧ q < 4294967296) (fun _ i => 8 - (intOf i).toNat)
  case atStart => exact ⟨0, x, by omega, rfl, rfl, rfl, hx32⟩
  case round =>
    obtain ⟨k, q, hk, rfl, rfl, hq, hq32⟩ := hrel
    by_cases hlt : k < 8
    · go_wp2_with (go_at_call 110; refine (rdown_any _ hq32 _).mono ?_; rintro e w' ⟨rfl, rfl⟩)
      go_round
      case rel => exact ⟨k + 1, down q, by omega, by go_num, rfl, by
          show down q = iter down (k + 1) x
          rw [iter_succ', ← hq.out], down_lt hq32⟩
      case measure => simp [intOf]; omega
    · go_wp2_with fail
      go_ret
      obtain rfl : k = 8 := by omega
      exact ⟨ret_u32 (by rw [hq.out]), rfl⟩

theorem rcrc32_any (s : ByteArray) (hs : s.size ≤ 9223372036854775807) (w : World) :
    Calls Tryd.prog 79 #[.string s] w fun e w' => e = .returned (.int .u32 (crc32 s.data.toList : Nat)) ∧ w = w' := by
  go_enter Tryd.func79, Tryd.ntmps79
  go_wp2_with fail
  go_loop [3, 4] (fun r i => ∃ k q : Nat, k ≤ s.size ∧ i = .int .i64 k ∧ r = .int .u32 q ∧ Hid (q = reg32 4294967295 (s.data.toList.take k)) ∧ q < 4294967296) (fun _ i => s.size - (intOf i).toNat)
  case atStart => exact ⟨0, 4294967295, Nat.zero_le _, rfl, rfl, by simp [Hid, reg32], by decide⟩
  case round =>
    obtain ⟨k, q, hk, rfl, rfl, hq, hq32⟩ := hrel
    by_cases hlt : k < s.size
    · go_wp2_with (go_at_call 99; refine (rbyte32_any _ _ hq32 (u8lt _) _).mono ?_; rintro e w' ⟨rfl, rfl⟩)
      go_round
      case rel => exact ⟨k + 1, byte32 q s[k].toNat, by omega, by go_num, rfl, by
        have := hq.out
        show _ = _
        rw [take_snoc' s k hlt, reg32_append, ← this]; rfl, byte32_lt hq32 (u8lt _)⟩
      case measure => simp [intOf]; omega
    · go_wp2_with fail
      go_ret
      refine ⟨ret_u32 ?_, rfl⟩
      have := hq.out
      rw [List.take_of_length_le (by simp; omega)] at this
      have e := u32_xor_nat q 4294967295 hq32 (by decide)
      rw [this] at e ⊢
      exact e

end Go.Proofs.YthhghggaoljcbaaDoor
