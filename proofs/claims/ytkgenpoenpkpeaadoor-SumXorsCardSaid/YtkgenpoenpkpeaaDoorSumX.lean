/- The walk of the statement SumXors. -/
import Derived.Test.YtkgenpoenpkpeaaDoorSumW
import Derived.Deep.RegionHeld3
import Derived.WalkLawsBesides
namespace Go.Proofs.YtkgenpoenpkpeaaDoor
open Go.RowKit Sum2

theorem xor3_length (a b c : List UInt8) (h1 : a.length = b.length) (h2 : b.length = c.length) : (xor3 a b c).length = a.length := by
  induction a generalizing b c with
  | nil => simp [xor3]
  | cons x a ih =>
    match b, c, h1, h2 with
    | y :: b, z :: c, h1, h2 => simp only [xor3, List.length_cons]; rw [ih b c (by simpa using h1) (by simpa using h2)]

theorem xor3_snoc (a b c : List UInt8) (x y z : UInt8) (h1 : a.length = b.length) (h2 : b.length = c.length) : xor3 (a ++ [x]) (b ++ [y]) (c ++ [z]) = xor3 a b c ++ [x ^^^ y ^^^ z] := by
  induction a generalizing b c with
  | nil =>
    obtain rfl : b = [] := List.length_eq_zero_iff.1 h1.symm
    obtain rfl : c = [] := List.length_eq_zero_iff.1 h2.symm
    rfl
  | cons u a ih =>
    match b, c, h1, h2 with
    | v :: b, w :: c, h1, h2 => simp only [List.cons_append, xor3]; rw [ih b c (by simpa using h1) (by simpa using h2)]

theorem take_snocL (s : ByteArray) (k : Nat) (h : k < s.size) : s.data.toList.take (k + 1) = s.data.toList.take k ++ [s[k]] := take_snoc' s k h

set_option maxHeartbeats 4000000 in
theorem xors_any (a b c : ByteArray) (ha : a.size ≤ 140737488351232) (hb : b.size ≤ 140737488351232) (hc : c.size ≤ 140737488351232) (n : Nat) (hn : n = min (min a.size b.size) c.size) (hn3 : n ≤ 300) (w : World) (ht : Tab w) :
    Calls Tryd.prog 3 #[.string a, .string b, .string c] w fun e w' => e = .returned (.bool true) ∧ Below w.heap.size w w' := by
  have HT := Lib.hid ht; clear ht
  have h1 : n ≤ a.size := by omega
  have h2 : n ≤ b.size := by omega
  have h3 : n ≤ c.size := by omega
  have hm : (if (c.size : Int) < (if b.size < a.size then (b.size : Int) else (a.size : Int)) then (c.size : Int) else if b.size < a.size then (b.size : Int) else (a.size : Int)) = (n : Int) := by
    split <;> split at * <;> omega
  clear hn
  obtain ⟨la, hla⟩ : ∃ l, l = a.data.toList := ⟨_, rfl⟩
  obtain ⟨lb, hlb⟩ : ∃ l, l = b.data.toList := ⟨_, rfl⟩
  obtain ⟨lc, hlc⟩ : ∃ l, l = c.data.toList := ⟨_, rfl⟩
  have HA := Lib.hid hla
  have HB := Lib.hid hlb
  have HC := Lib.hid hlc
  clear hla hlb hlc
  go_enter Tryd.func3, Tryd.ntmps3
  go_wp2_with fail
  go_loopw [8, 9] (fun v i wr => ∃ k : Nat, k ≤ n ∧ i = .int .i64 k ∧ Buf wr w.heap.size v (xor3 (la.take k) (lb.take k) (lc.take k)) ∧ Below w.heap.size w wr) (fun _ i _ => n - (intOf i).toNat)
  case atStart => exact ⟨0, by omega, rfl, Buf.nil _ _, Below.refl _ _⟩
  case round =>
    clear hm
    obtain ⟨k, hk, rfl, hown, hbl⟩ := hrel
    have hsz := hbl.size
    by_cases hlt : k < n
    · obtain ⟨z, hz⟩ : ∃ z : Nat, z = (a[k]'(by omega)).toNat ^^^ (b[k]'(by omega)).toNat := ⟨_, rfl⟩
      have hz256 : z < 256 := by rw [hz]; exact Nat.xor_lt_two_pow (n := 8) (u8lt _) (u8lt _)
      obtain ⟨y, hy⟩ : ∃ y : Nat, y = z ^^^ (c[k]'(by omega)).toNat := ⟨_, rfl⟩
      have hy256 : y < 256 := by rw [hy]; exact Nat.xor_lt_two_pow (n := 8) hz256 (u8lt _)
      have e1 : bits .xor .u8 ((a[k]'(by omega)).toNat : Int) ((b[k]'(by omega)).toNat : Int) = (z : Int) := by rw [hz]; exact u8_xor_nat _ _ (u8lt _) (u8lt _)
      have e2 : bits .xor .u8 (z : Int) ((c[k]'(by omega)).toNat : Int) = (y : Int) := by rw [hy]; exact u8_xor_nat _ _ hz256 (u8lt _)
      have k1 : k < a.size := by omega
      have k2 : k < b.size := by omega
      have k3 : k < c.size := by omega
      have hfin : xor3 (la.take (k + 1)) (lb.take (k + 1)) (lc.take (k + 1)) = xor3 (la.take k) (lb.take k) (lc.take k) ++ [UInt8.ofNat y] := by
        rw [HA.out, HB.out, HC.out, take_snocL a k k1, take_snocL b k k2, take_snocL c k k3, xor3_snoc _ _ _ _ _ _ (by simp; omega) (by simp; omega)]
        congr 2
        apply UInt8.toNat_inj.1
        rw [UInt8.toNat_ofNat', Nat.mod_eq_of_lt hy256, hy, hz, UInt8.toNat_xor, UInt8.toNat_xor]
      have hlen : (xor3 (la.take k) (lb.take k) (lc.take k)).length < 70368744177664 := by
        rw [xor3_length _ _ _ (by rw [HA.out, HB.out]; simp; omega) (by rw [HB.out, HC.out]; simp; omega)]; simp; omega
      have HF := Lib.hid hfin
      clear hfin hz hy
      go_wp2_with fail
      go_region_law (refine step_app_u8 (n := (y : Int)) rfl rfl w.heap.size rfl (hown.alloc _).drew rfl (by simp [go_sem]) (by omega) (by omega) hlen (by simp; omega) ?_; intro g cap w1 hown1 hb1 hg1)
      all_goals
        go_wp2
        go_roundw
        case rel => exact ⟨k + 1, by omega, by go_num, hown1.congr rfl HF.out.symm, ((hbl.alloc hsz _).drew).trans hb1⟩
        case measure => simp [intOf]; omega
    · obtain rfl : k = n := by omega
      have ht0 : Hid (Tab wr.drew) := HT.out.below hbl.drew
      have hl1 : (la.take k).length = (lb.take k).length := by rw [HA.out, HB.out]; simp; omega
      have hl2 : (lb.take k).length = (lc.take k).length := by rw [HB.out, HC.out]; simp; omega
      have hx32 := crc32_xor3 (la.take k) (lb.take k) (lc.take k) hl1 hl2
      have hx16 := crc16_xor3 (la.take k) (lb.take k) (lc.take k) hl1 hl2
      have hxl := xor3_length (la.take k) (lb.take k) (lc.take k) hl1 hl2
      have hxs : (⟨(xor3 (la.take k) (lb.take k) (lc.take k)).toArray⟩ : ByteArray).size ≤ 9223372036854775807 := by
        show (xor3 (la.take k) (lb.take k) (lc.take k)).toArray.size ≤ _
        rw [List.size_toArray, hxl, HA.out]; simp; omega
      have hstr := buf_string hown.drew
      obtain ⟨X, hX⟩ : ∃ X : ByteArray, X = ⟨(xor3 (la.take k) (lb.take k) (lc.take k)).toArray⟩ := ⟨_, rfl⟩
      have hXl : X.data.toList = xor3 (la.take k) (lb.take k) (lc.take k) := by rw [hX]
      rw [← hX] at hstr hxs
      have HST : Hid (∀ w', Below wr.drew.heap.size wr.drew w' → Sem.run Tryd.prog (convert 23 9 u8) w' = .ok (.string X) w') := fun w' hb => by rw [hX]; exact buf_string (hown.drew.below hb)
      have hAe : (a.extract 0 k).data.toList = la.take k := by rw [extract_take, HA.out]
      have hBe : (b.extract 0 k).data.toList = lb.take k := by rw [extract_take, HB.out]
      have hCe : (c.extract 0 k).data.toList = lc.take k := by rw [extract_take, HC.out]
      have b1 := extract_le a 0 k
      have b2 := extract_le b 0 k
      have b3 := extract_le c 0 k
      have c0 := crc32_any X hxs wr.drew ht0.out
      have c1 := crc32_any (a.extract 0 k) (by omega) wr.drew ht0.out
      have c2 := crc32_any (b.extract 0 k) (by omega) wr.drew ht0.out
      have c3 := crc32_any (c.extract 0 k) (by omega) wr.drew ht0.out
      have d0 := crc16_any X hxs wr.drew
      have d1 := crc16_any (a.extract 0 k) (by omega) wr.drew
      have d2 := crc16_any (b.extract 0 k) (by omega) wr.drew
      have d3 := crc16_any (c.extract 0 k) (by omega) wr.drew
      rw [hXl] at c0 d0
      rw [hAe] at c1 d1
      rw [hBe] at c2 d2
      rw [hCe] at c3 d3
      have l1 := crc32_lt (la.take k); have l2 := crc32_lt (lb.take k); have l3 := crc32_lt (lc.take k)
      have m1 := crc16_lt (la.take k); have m2 := crc16_lt (lb.take k); have m3 := crc16_lt (lc.take k)
      generalize crc32 (la.take k) = x1 at *
      generalize crc32 (lb.take k) = x2 at *
      generalize crc32 (lc.take k) = x3 at *
      generalize crc16 (la.take k) = y1 at *
      generalize crc16 (lb.take k) = y2 at *
      generalize crc16 (lc.take k) = y3 at *
      generalize crc32 (xor3 (la.take k) (lb.take k) (lc.take k)) = x0 at *
      generalize crc16 (xor3 (la.take k) (lb.take k) (lc.take k)) = y0 at *
      have f1 := u32_xor_nat x1 x2 l1 l2
      have f2 := u32_xor_nat (x1 ^^^ x2) x3 (Nat.xor_lt_two_pow (n := 32) l1 l2) l3
      have g1 := u16_xor_nat y1 y2 m1 m2
      have g2 := u16_xor_nat (y1 ^^^ y2) y3 (Nat.xor_lt_two_pow (n := 16) m1 m2) m3
      rw [← hx32] at f2
      rw [← hx16] at g2
      generalize x1 ^^^ x2 = x12 at *
      generalize y1 ^^^ y2 = y12 at *
      have C0 := Lib.hid c0; have C1 := Lib.hid c1; have C2 := Lib.hid c2; have C3 := Lib.hid c3
      have D0 := Lib.hid d0; have D1 := Lib.hid d1; have D2 := Lib.hid d2; have D3 := Lib.hid d3
      have AW := Lib.hid (awake_any wr.drew ht0.out)
      clear hx32 hx16 hX hXl hAe hBe hCe c0 c1 c2 c3 d0 d1 d2 d3 hl1 hl2 hxl l1 l2 l3 m1 m2 m3
      go_wp2_with fail
      go_region_held3 (fun w' => Sem.run Tryd.prog (convert 23 9 u8) w' = .ok (.string X) w') (first | exact hstr | exact HST.out _ (by assumption)) (first
        | (go_at_call_of 12 (Value.string X); refine C0.out.mono ?_; rintro e w' ⟨rfl, rfl⟩)
        | (go_at_call_of 12 (Value.string (a.extract 0 k)); refine C1.out.mono ?_; rintro e w' ⟨rfl, rfl⟩)
        | (go_at_call_of 12 (Value.string (b.extract 0 k)); refine C2.out.mono ?_; rintro e w' ⟨rfl, rfl⟩)
        | (go_at_call_of 12 (Value.string (c.extract 0 k)); refine C3.out.mono ?_; rintro e w' ⟨rfl, rfl⟩)
        | (go_at_call_of 13 (Value.string X); refine D0.out.mono ?_; rintro e w' ⟨rfl, rfl⟩)
        | (go_at_call_of 13 (Value.string (a.extract 0 k)); refine D1.out.mono ?_; rintro e w' ⟨rfl, rfl⟩)
        | (go_at_call_of 13 (Value.string (b.extract 0 k)); refine D2.out.mono ?_; rintro e w' ⟨rfl, rfl⟩)
        | (go_at_call_of 13 (Value.string (c.extract 0 k)); refine D3.out.mono ?_; rintro e w' ⟨rfl, rfl⟩)
        | (go_at_call 11; refine AW.out.mono ?_; rintro e w' ⟨rfl, hbw⟩))
      all_goals
        go_wp2
        go_ret
        exact ⟨rfl, hbl.drew.trans (hbw.mono hsz)⟩

theorem xors_big (a b c : ByteArray) (n : Nat) (hn : n = min (min a.size b.size) c.size) (hn3 : 300 < n) (w : World) (ht : Tab w) :
    Calls Tryd.prog 3 #[.string a, .string b, .string c] w fun e w' => e = .returned (.bool true) ∧ Below w.heap.size w w' := by
  have HT := Lib.hid ht; clear ht
  have hm : (if (c.size : Int) < (if b.size < a.size then (b.size : Int) else (a.size : Int)) then (c.size : Int) else if b.size < a.size then (b.size : Int) else (a.size : Int)) = (n : Int) := by
    split <;> split at * <;> omega
  clear hn
  go_enter Tryd.func3, Tryd.ntmps3
  go_wp2_with (go_at_call 11; refine (awake_any _ HT.out).mono ?_; rintro e w' ⟨rfl, hbw⟩)
  go_ret
  exact ⟨rfl, hbw⟩

theorem sumXors_any (a : ByteArray) (ha : a.size ≤ 140737488351232) (b : ByteArray) (hb : b.size ≤ 140737488351232) (c : ByteArray) (hc : c.size ≤ 140737488351232) (w : World) (ht : Tab w) :
    Calls Tryd.prog 3 #[.string a, .string b, .string c] w fun e w' => e = .returned (.bool true) ∧ Below w.heap.size w w' := by
  by_cases h : min (min a.size b.size) c.size ≤ 300
  · exact xors_any a b c ha hb hc _ rfl h w ht
  · exact xors_big a b c _ rfl (by omega) w ht
end Go.Proofs.YtkgenpoenpkpeaaDoor
