/- Texts of small laws, one behind the other. -/
import Derived.Test.YtmfbkelhegdmpaaGreatDoorSnapPl
import Derived.Test.YtmfbkelhegdmpaaGreatDoorSumDL
import Derived.Test.YtmfbkelhegdmpaaGreatDoorJournalFH
import Derived.Deep.RegionWith
import Derived.Handy
import Derived.Test.YtmfbkelhegdmpaaGreatDoorRanges
import Derived.Test.YtmfbkelhegdmpaaGreatDoorSnapAK
import Derived.Deep.QuietTactic
import Derived.BigQuiet
/- The walks of sealed texts, of the forms of snapshots and of numbers as bytes, chapter 13 (snap), of the program's and of the reference's. -/
namespace Go.Proofs.YtmfbkelhegdmpaaGreatDoor
open Go.RowKit Disk11 Journal12 Sum2

set_option maxRecDepth 100000 in
theorem size32_any (x : Int) (w : World) : Calls Tryz.prog 143 #[.int .u32 x] w fun e w' => e = .returned (.int .i64 4) ∧ w = w' := by
  obtain ⟨m, hm, h1, h2⟩ : ∃ m : Int, bits .xor .u32 (if IntKind.u32.signed = true then (-1 : Int) else IntKind.u32.max) 0 = m ∧ 65536 < m ∧ m < 4294967296 := ⟨_, rfl, by decide, by decide⟩
  go_enter Tryz.func143, Tryz.ntmps143
  go_wp2
  go_ret
  exact ⟨rfl, rfl⟩
set_option maxHeartbeats 400000 in
theorem text32_any (x : Nat) (hx : x < 4294967296) (w : World) :
    Calls Tryz.prog 117 #[.int .u32 x] w fun e w' => e = .returned (.string ⟨(text32 x).toArray⟩) ∧ Below w.heap.size w w' := by
  obtain ⟨T, hT⟩ : ∃ T, T = text32 x := ⟨_, rfl⟩
  have hl : T.length = 4 := by rw [hT]; rfl
  rw [← hT]
  have HT := Lib.hid hT; clear hT
  go_enter Tryz.func117, Tryz.ntmps117
  go_wp2_with (go_at_call 143; refine (size32_any _ _).mono ?_; rintro e w' ⟨rfl, rfl⟩)
  go_loopw [3, 4] (fun v i wr => ∃ k : Nat, k ≤ 4 ∧ i = .int .i64 (3 - (k : Int)) ∧ Buf wr w.heap.size v (T.take k) ∧ Below w.heap.size w wr) (fun _ i _ => (1 + intOf i).toNat)
  case atStart => exact ⟨0, by omega, rfl, Buf.nil _ _, Below.refl _ _⟩
  case round =>
    obtain ⟨k, hk, rfl, hown, hb⟩ := hrel
    have hsz := hb.size
    have hk5 : k = 0 ∨ k = 1 ∨ k = 2 ∨ k = 3 ∨ k = 4 := by omega
    rcases hk5 with rfl | rfl | rfl | rfl | rfl
    · go_wp2_with (at_builtin; refine app_u8 rfl rfl w.heap.size rfl hown rfl (by omega) (by omega) (by rw [List.length_take]; omega) hsz ?_; intro g cap w1 hown1 hb1 hg1)
      go_roundw
      case rel => exact ⟨1, by omega, rfl, hown1.congr (by simp) (text32_0 HT.out (by omega)), hb.trans hb1⟩
      case measure => simp [intOf]
    · go_wp2_with (at_builtin; refine app_u8 rfl rfl w.heap.size rfl hown rfl (by omega) (by omega) (by rw [List.length_take]; omega) hsz ?_; intro g cap w1 hown1 hb1 hg1)
      go_roundw
      case rel => exact ⟨2, by omega, rfl, hown1.congr (by simp [hl]) (text32_1 HT.out (by omega)), hb.trans hb1⟩
      case measure => simp [intOf]
    · go_wp2_with (at_builtin; refine app_u8 rfl rfl w.heap.size rfl hown rfl (by omega) (by omega) (by rw [List.length_take]; omega) hsz ?_; intro g cap w1 hown1 hb1 hg1)
      go_roundw
      case rel => exact ⟨3, by omega, rfl, hown1.congr (by simp [hl]) (text32_2 HT.out (by omega)), hb.trans hb1⟩
      case measure => simp [intOf]
    · go_wp2_with (at_builtin; refine app_u8 rfl rfl w.heap.size rfl hown rfl (by omega) (by omega) (by rw [List.length_take]; omega) hsz ?_; intro g cap w1 hown1 hb1 hg1)
      go_roundw
      case rel => exact ⟨4, by omega, rfl, hown1.congr (by simp [hl]) (text32_3 HT.out (by omega)), hb.trans hb1⟩
      case measure => simp [intOf]
    · have hstr := buf_string hown
      go_wp2
      go_ret
      refine ⟨?_, hb⟩
      rw [List.take_of_length_le (by omega)]; rfl
theorem seal_join (s : ByteArray) (T : List UInt8) : s ++ (⟨T.toArray⟩ : ByteArray) = ⟨(s.data.toList ++ T).toArray⟩ := by
  apply ByteArray.ext; simp [ByteArray.data_append]

theorem seal32_any (s : ByteArray) (hs : s.size ≤ 140737488351232) (w : World) (ht : Tab w) :
    Calls Tryz.prog 82 #[.string s] w fun e w' => e = .returned (.string ⟨(seal32 s.data.toList).toArray⟩) ∧ Below w.heap.size w w' := by
  have HT := Lib.hid ht; clear ht
  have hc := crc32_lt s.data.toList
  unfold seal32
  rw [← seal_join]
  obtain ⟨c, hc'⟩ : ∃ c, c = crc32 s.data.toList := ⟨_, rfl⟩
  rw [← hc'] at hc ⊢
  obtain ⟨t, ht⟩ : ∃ t : ByteArray, t = ⟨(text32 c).toArray⟩ := ⟨_, rfl⟩
  have hsz : t.size = 4 := by rw [ht]; rfl
  rw [← ht]
  have HC := Lib.hid hc'; clear hc'
  have HTT := Lib.hid ht; clear ht
  have hadd := run_string_add_sum (P := Tryz.prog) (a := s) (b := t) (h := by omega)
  go_enter Tryz.func82, Tryz.ntmps82
  go_wp2_with fail
  refine (crc32_any s (by omega) _ HT.out).mono ?_
  rw [← HC.out]
  rintro e w' ⟨rfl, rfl⟩
  go_wp2_with fail
  refine (text32_any c hc _).mono ?_
  rw [← HTT.out]
  rintro e w' ⟨rfl, hb⟩
  go_wp2
  go_ret
  exact ⟨rfl, hb⟩

theorem one_string_s (c : Nat) (hc : c < 256) (w : World) : (convert 52 9 (.slice (some ⟨w.heap.size, 0, none⟩) 1 1)).run Tryz.prog (w.alloc (.cells #[.int .u8 (c : Int)] 5)) = .ok (.string ⟨[UInt8.ofNat c].toArray⟩) (w.alloc (.cells #[.int .u8 (c : Int)] 5)) := one_string c hc w
theorem beS_front : ∀ k n, beS (k + 1) n = UInt8.ofNat (n / 256 ^ k) :: beS k n
  | 0, n => by unfold beS beS; simp
  | k + 1, n => by
    have h := beS_front k (n / 256)
    have e : beS (k + 2) n = beS (k + 1) (n / 256) ++ [UInt8.ofNat n] := rfl
    have e2 : beS (k + 1) n = beS k (n / 256) ++ [UInt8.ofNat n] := rfl
    rw [e, e2, h, List.cons_append, Nat.div_div_eq_div_mul, Nat.pow_succ, Nat.mul_comm 256]
set_option maxHeartbeats 1000000 in
set_option maxRecDepth 100000 in
theorem Rbytes_any (n k : Nat) (hn : n < 18446744073709551616) (hk : k ≤ 8) (w : World) :
    Calls Tryz.prog 85 #[.int .u64 (n : Int), .int .i64 (k : Int)] w fun e w' => e = .returned (.string ⟨(beS k n).toArray⟩) ∧ Below w.heap.size w w' := by
  go_enter Tryz.func85, Tryz.ntmps85
  go_wp2
  go_loopw [0, 5, 6] (fun x o i wr => ∃ j : Nat, i = .int .i64 (j : Int) ∧ j ≤ k ∧ x = .int .u64 ((n / 256 ^ j : Nat) : Int) ∧ o = .string ⟨(beS j n).toArray⟩ ∧ Below w.heap.size w wr) (fun _ _ i _ => k - (intOf i).toNat)
  case atStart => exact ⟨0, rfl, Nat.zero_le _, by simp, rfl, Below.refl _ _⟩
  case round =>
    obtain ⟨j, rfl, hj, rfl, rfl, hb⟩ := hrel
    by_cases hlt : j < k
    · have hlt' : decide ((j : Int) < k) = true := by simp; omega
      obtain ⟨x, hx⟩ : ∃ x, x = n / 256 ^ j := ⟨_, rfl⟩
      have hx64 : x < 18446744073709551616 := by rw [hx]; exact Nat.lt_of_le_of_lt (Nat.div_le_self _ _) hn
      have hf := beS_front j n
      rw [← hx] at hf ⊢
      obtain ⟨b, hb0⟩ : ∃ b, b = x % 256 := ⟨_, rfl⟩
      have hb2 : b < 256 := by omega
      have hw8 : IntKind.u8.wrap (x : Int) = (b : Int) := by simp [IntKind.wrap, IntKind.bits, IntKind.signed]; omega
      have hfb : UInt8.ofNat x = UInt8.ofNat b := ofNat_mod _ _ (by omega)
      rw [hfb] at hf
      have hnx : n / 256 ^ (j + 1) = x / 256 := by rw [hx, Nat.div_div_eq_div_mul, Nat.pow_succ]
      have hnx' := Lib.hid hnx
      obtain ⟨t, ht⟩ : ∃ t, t = beS j n := ⟨_, rfl⟩
      have htl : t.length = j := by rw [ht]; exact beS_length j n
      rw [← ht] at hf ⊢
      have hcv := one_string_s b hb2 wr
      have al := Go.Joins.below_alloc1 wr (.cells #[.int .u8 (b : Int)] 5)
      have hba : (⟨[UInt8.ofNat b].toArray⟩ : ByteArray) ++ ⟨t.toArray⟩ = ⟨(UInt8.ofNat b :: t).toArray⟩ := bytes_app _ _
      have hB := Lib.hid (hb.trans (al.mono hb.size))
      have hf' := Lib.hid hf
      clear hb al hx hf hb0 hnx ht hfb
      go_wp2
      exact ⟨⟨j + 1, by go_num, hlt, by rw [hnx'.out]; rfl, by rw [hf'.out], hB.out⟩, by simp [intOf]; omega⟩
    · obtain rfl : j = k := by omega
      have hlt' : decide ((j : Int) < j) = false := by simp
      go_wp2
      go_ret
      exact ⟨rfl, hb⟩
theorem u64_or_nat (a b : Nat) (ha : a < 18446744073709551616) (hb : b < 18446744073709551616) : bits .or .u64 (a : Int) (b : Int) = ((a ||| b : Nat) : Int) := by
  have hx : a ||| b < 2 ^ 64 := Nat.or_lt_two_pow (by omega) (by omega)
  show IntKind.u64.wrap ((BitVec.ofInt 64 (a : Int) ||| BitVec.ofInt 64 (b : Int)).toNat : Int) = _
  rw [BitVec.toNat_or, ofInt_u64 a (by omega), ofInt_u64 b (by omega)]
  have hw : ∀ n : Nat, n < 18446744073709551616 → IntKind.u64.wrap (n : Int) = (n : Int) := fun n hn => by simp [IntKind.wrap, IntKind.bits, IntKind.signed]; omega
  exact hw _ hx
theorem num_bits (a b : Nat) (ha : a < 72057594037927936) (hb : b < 256) : bits .or .u64 ((a : Int) * 256) (b : Int) = ((a * 256 + b : Nat) : Int) := by
  have e3 : (a : Int) * 256 = ((2 ^ 8 * a : Nat) : Int) := by omega
  rw [e3, u64_or_nat _ _ (by omega) (by omega), ← Nat.two_pow_add_eq_or_of_lt (by omega)]
  omega
theorem numS_take (l : List UInt8) (k : Nat) (h : k < l.length) : numS (l.take (k + 1)) = numS (l.take k) * 256 + l[k].toNat := by
  rw [List.take_succ_eq_append_getElem h, numS_snoc]
theorem numS_lt (l : List UInt8) : ∀ k, k ≤ l.length → numS (l.take k) < 256 ^ k
  | 0, _ => by rw [List.take_zero]; decide
  | k + 1, h => by
    have ih := numS_lt l k (by omega)
    rw [numS_take l k (by omega), Nat.pow_succ]
    have := (l[k]'(by omega)).toNat_lt
    omega
theorem numS_pre (l : List UInt8) (k : Nat) (hl : l.length ≤ 8) (h : k < l.length) : numS (l.take k) < 72057594037927936 :=
  Nat.lt_of_lt_of_le (numS_lt l k (by omega)) (Nat.pow_le_pow_right (by decide) (by omega : k ≤ 7))
set_option maxHeartbeats 1000000 in
set_option maxRecDepth 100000 in
theorem Rnumber_any (l : List UInt8) (hl : l.length ≤ 8) (w : World) :
    Calls Tryz.prog 102 #[.string ⟨l.toArray⟩] w fun e w' => e = .returned (.int .u64 (numS l : Nat)) ∧ w' = w := by
  have hsz : (⟨l.toArray⟩ : ByteArray).size = l.length := rfl
  go_enter Tryz.func102, Tryz.ntmps102
  go_wp2
  go_loopw [3, 4] (fun x i wr => ∃ j : Nat, i = .int .i64 (j : Int) ∧ j ≤ l.length ∧ x = .int .u64 ((numS (l.take j) : Nat) : Int) ∧ w = wr) (fun _ i _ => l.length - (intOf i).toNat)
  case atStart => exact ⟨0, rfl, Nat.zero_le _, rfl, rfl⟩
  case round =>
    obtain ⟨j, rfl, hj, rfl, rfl⟩ := hrel
    by_cases hlt : j < l.length
    · have hlt' : decide ((j : Int) < l.length) = true := by simp; omega
      have hn := numS_pre l j hl hlt
      have ht := numS_take l j hlt
      obtain ⟨x, hx⟩ : ∃ x, x = numS (l.take j) := ⟨_, rfl⟩
      rw [← hx] at hn ht ⊢
      have hb := l[j].toNat_lt
      have hg : ((⟨l.toArray⟩ : ByteArray)[j]'hlt).toNat = l[j].toNat := rfl
      obtain ⟨b, hb0⟩ : ∃ b : Nat, b = l[j].toNat := ⟨_, rfl⟩
      rw [← hb0] at hb ht hg
      have hbi := num_bits x b hn hb
      have ht' := Lib.hid ht
      clear hx hb0 ht
      go_wp2
      exact ⟨⟨j + 1, by go_num, hlt, congrArg (Value.int .u64) (by rw [ht'.out]; omega), trivial⟩, by simp [intOf]; omega⟩
    · obtain rfl : j = l.length := by omega
      have hlt' : decide ((l.length : Int) < l.length) = false := by simp
      rw [List.take_length]
      go_wp2
      go_ret
      exact ⟨rfl, rfl⟩
set_option maxHeartbeats 1000000 in
set_option maxRecDepth 100000 in
theorem worth_any (l : List UInt8) (hl : l.length ≤ 8) (w : World) :
    Calls Tryz.prog 124 #[.string ⟨l.toArray⟩] w fun e w' => e = .returned (.int .u64 (numS l : Nat)) ∧ w' = w := by
  have hsz : (⟨l.toArray⟩ : ByteArray).size = l.length := rfl
  go_enter Tryz.func124, Tryz.ntmps124
  go_wp2
  go_loopw [3, 4, 7] (fun x _ i wr => ∃ j : Nat, i = .int .i64 (j : Int) ∧ j ≤ l.length ∧ x = .int .u64 ((numS (l.take j) : Nat) : Int) ∧ w = wr) (fun _ _ i _ => l.length - (intOf i).toNat)
  case atStart => exact ⟨0, rfl, Nat.zero_le _, rfl, rfl⟩
  case round =>
    obtain ⟨j, rfl, hj, rfl, rfl⟩ := hrel
    by_cases hlt : j < l.length
    · have hlt' : decide ((j : Int) < l.length) = true := by simp; omega
      have hn := numS_pre l j hl hlt
      have ht := numS_take l j hlt
      obtain ⟨x, hx⟩ : ∃ x, x = numS (l.take j) := ⟨_, rfl⟩
      rw [← hx] at hn ht ⊢
      have hb := l[j].toNat_lt
      have hg : ((⟨l.toArray⟩ : ByteArray)[j]'hlt).toNat = l[j].toNat := rfl
      obtain ⟨b, hb0⟩ : ∃ b : Nat, b = l[j].toNat := ⟨_, rfl⟩
      rw [← hb0] at hb ht hg
      have hbi := num_bits x b hn hb
      have ht' := Lib.hid ht
      clear hx hb0 ht
      go_wp2
      exact ⟨⟨j + 1, by go_num, hlt, congrArg (Value.int .u64) (by rw [ht'.out]; omega), trivial⟩, by simp [intOf]; omega⟩
    · obtain rfl : j = l.length := by omega
      have hlt' : decide ((l.length : Int) < l.length) = false := by simp
      rw [List.take_length]
      go_wp2
      go_ret
      exact ⟨rfl, rfl⟩
theorem text32_be (c : Nat) : text32 c = beS 4 c := by
  unfold text32 beS beS beS beS beS
  simp only [Nat.div_div_eq_div_mul, List.nil_append, List.cons_append]
set_option maxHeartbeats 1000000 in
set_option maxRecDepth 100000 in
theorem Rform_any13 (g : Nat) (x : List UInt8) (hg : g < 18446744073709551616) (hx : x.length ≤ 1000000) (w : World) :
    Calls Tryz.prog 44 #[.int .u64 (g : Int), .string ⟨x.toArray⟩] w fun e w' => e = .returned (.string ⟨(formS g x).toArray⟩) ∧ Below w.heap.size w w' := by
  have H8 := Lib.hid (fun W => Rbytes_any g 8 hg (by decide) W)
  have H4 := Lib.hid (fun W => Rbytes_any x.length 4 (by omega) (by decide) W)
  have hsz : (⟨x.toArray⟩ : ByteArray).size = x.length := rfl
  obtain ⟨A, hA⟩ : ∃ A, A = beS 8 g := ⟨_, rfl⟩
  obtain ⟨B, hB⟩ : ∃ B, B = beS 4 x.length := ⟨_, rfl⟩
  have hAl : A.length = 8 := by rw [hA]; exact beS_length 8 g
  have hBl : B.length = 4 := by rw [hB]; exact beS_length 4 _
  obtain ⟨c, hc⟩ : ∃ c, c = crc32 (A ++ (B ++ x)) := ⟨_, rfl⟩
  have hc32 : c < 4294967296 := by rw [hc]; exact crc32_lt _
  have HC := Lib.hid (fun W => rcrc32_any ⟨(A ++ (B ++ x)).toArray⟩ (by show (A ++ (B ++ x)).length ≤ _; simp [hAl, hBl]; omega) W)
  have HS := Lib.hid (fun W => Rbytes_any c 4 (by omega) (by decide) W)
  have hf : formS g x = A ++ (B ++ (x ++ beS 4 c)) := by
    unfold formS seal32
    rw [← hA, ← hB, ← hc, text32_be, List.append_assoc, List.append_assoc]
  rw [← hA] at H8
  rw [← hB] at H4
  rw [show (⟨(A ++ (B ++ x)).toArray⟩ : ByteArray).data.toList = A ++ (B ++ x) from rfl, ← hc] at HC
  obtain ⟨T, hT⟩ : ∃ T, T = beS 4 c := ⟨_, rfl⟩
  have hTl : T.length = 4 := by rw [hT]; exact beS_length 4 _
  rw [← hT] at HS hf
  rw [hf]
  have b1 := bytes_app A B
  have b2 := bytes_app (A ++ B) x
  have b3 := bytes_app (A ++ (B ++ x)) T
  have z1 : (⟨A.toArray⟩ : ByteArray).size = 8 := hAl
  have z2 : (⟨B.toArray⟩ : ByteArray).size = 4 := hBl
  have z3 : (⟨(A ++ B).toArray⟩ : ByteArray).size = 12 := by show (A ++ B).length = 12; rw [List.length_append, hAl, hBl]
  have z4 : (⟨(A ++ (B ++ x)).toArray⟩ : ByteArray).size = 12 + x.length := by show (A ++ (B ++ x)).length = _; simp [hAl, hBl]; omega
  have z5 : (⟨T.toArray⟩ : ByteArray).size = 4 := hTl
  clear hf hA hB hc hT hAl hBl hTl hg
  go_enter Tryz.func44, Tryz.ntmps44
  go_wp2_with fail
  refine (H8.out _).mono ?_
  rintro e w1 ⟨rfl, y1⟩
  go_wp2_with fail
  refine (H4.out _).mono ?_
  rintro e w2 ⟨rfl, y2⟩
  go_wp2_with fail
  refine (HC.out _).mono ?_
  rintro e w3 ⟨rfl, rfl⟩
  go_wp2_with fail
  refine (HS.out _).mono ?_
  rintro e w4 ⟨rfl, y4⟩
  go_wp2
  go_ret
  exact ⟨rfl, (y1.trans (y2.mono y1.size)).trans (y4.mono (y1.trans (y2.mono y1.size)).size)⟩
end Go.Proofs.YtmfbkelhegdmpaaGreatDoor
/- The walk of form, chapter 13 (snap): the form of a snapshot. -/
namespace Go.Proofs.YtmfbkelhegdmpaaGreatDoor
open Go.RowKit Disk11 Journal12 Sum2

theorem be8 (g : Nat) : beS 8 g = [UInt8.ofNat (g / 72057594037927936), UInt8.ofNat (g / 281474976710656), UInt8.ofNat (g / 1099511627776), UInt8.ofNat (g / 4294967296), UInt8.ofNat (g / 16777216), UInt8.ofNat (g / 65536), UInt8.ofNat (g / 256), UInt8.ofNat g] := by
  unfold beS beS beS beS beS beS beS beS beS
  simp only [Nat.div_div_eq_div_mul, List.nil_append, List.cons_append]
theorem be4 (n : Nat) : beS 4 n = [UInt8.ofNat (n / 16777216), UInt8.ofNat (n / 65536), UInt8.ofNat (n / 256), UInt8.ofNat n] := by
  unfold beS beS beS beS beS
  simp only [Nat.div_div_eq_div_mul, List.nil_append, List.cons_append]
theorem byte_of (x b : Nat) (h : b = x % 256) : ((UInt8.ofNat x).toNat : Int) = (b : Int) := by rw [UInt8.toNat_ofNat', h]
set_option maxHeartbeats 4000000 in
set_option maxRecDepth 100000 in
theorem sform_any (g : Nat) (x : List UInt8) (_hg : g < 18446744073709551616) (hx : x.length ≤ 1000000) (w : World) (ht : Tab w) :
    Calls Tryz.prog 41 #[.int .u64 (g : Int), .string ⟨x.toArray⟩] w fun e w' => e = .returned (.string ⟨(formS g x).toArray⟩) ∧ Below w.heap.size w w' := by
  have hsz : (⟨x.toArray⟩ : ByteArray).size = x.length := rfl
  obtain ⟨T, hT⟩ : ∃ T, T = beS 8 g ++ beS 4 x.length := ⟨_, rfl⟩
  have hTl : T.length = 12 := by rw [hT, List.length_append, beS_length, beS_length]
  have hF : formS g x = seal32 (T ++ x) := by unfold formS; rw [hT, List.append_assoc]
  have HS := Lib.hid (fun W t => seal32_any ⟨(T ++ x).toArray⟩ (by show (T ++ x).length ≤ _; rw [List.length_append]; omega) W t)
  rw [show (⟨(T ++ x).toArray⟩ : ByteArray).data.toList = T ++ x from rfl, ← hF] at HS
  have hT2 := hT
  rw [be8, be4] at hT2
  have hTT := Lib.hid ht
  obtain ⟨n, hn⟩ : ∃ n, n = x.length := ⟨_, rfl⟩
  rw [← hn] at hT2 hsz hx
  obtain ⟨b0, c0⟩ : ∃ b : Nat, b = g / 72057594037927936 % 256 := ⟨_, rfl⟩
  obtain ⟨b1, c1⟩ : ∃ b : Nat, b = g / 281474976710656 % 256 := ⟨_, rfl⟩
  obtain ⟨b2, c2⟩ : ∃ b : Nat, b = g / 1099511627776 % 256 := ⟨_, rfl⟩
  obtain ⟨b3, c3⟩ : ∃ b : Nat, b = g / 4294967296 % 256 := ⟨_, rfl⟩
  obtain ⟨b4, c4⟩ : ∃ b : Nat, b = g / 16777216 % 256 := ⟨_, rfl⟩
  obtain ⟨b5, c5⟩ : ∃ b : Nat, b = g / 65536 % 256 := ⟨_, rfl⟩
  obtain ⟨b6, c6⟩ : ∃ b : Nat, b = g / 256 % 256 := ⟨_, rfl⟩
  obtain ⟨b7, c7⟩ : ∃ b : Nat, b = g % 256 := ⟨_, rfl⟩
  obtain ⟨m0, d0⟩ : ∃ b : Nat, b = n / 16777216 % 256 := ⟨_, rfl⟩
  obtain ⟨m1, d1⟩ : ∃ b : Nat, b = n / 65536 % 256 := ⟨_, rfl⟩
  obtain ⟨m2, d2⟩ : ∃ b : Nat, b = n / 256 % 256 := ⟨_, rfl⟩
  obtain ⟨m3, d3⟩ : ∃ b : Nat, b = n % 256 := ⟨_, rfl⟩
  have i0 : IntKind.u8.wrap ((g : Int) / 72057594037927936) = (b0 : Int) := by rw [IntKind.wrap_u8']; omega
  have i1 : IntKind.u8.wrap ((g : Int) / 281474976710656) = (b1 : Int) := by rw [IntKind.wrap_u8']; omega
  have i2 : IntKind.u8.wrap ((g : Int) / 1099511627776) = (b2 : Int) := by rw [IntKind.wrap_u8']; omega
  have i3 : IntKind.u8.wrap ((g : Int) / 4294967296) = (b3 : Int) := by rw [IntKind.wrap_u8']; omega
  have i4 : IntKind.u8.wrap ((g : Int) / 16777216) = (b4 : Int) := by rw [IntKind.wrap_u8']; omega
  have i5 : IntKind.u8.wrap ((g : Int) / 65536) = (b5 : Int) := by rw [IntKind.wrap_u8']; omega
  have i6 : IntKind.u8.wrap ((g : Int) / 256) = (b6 : Int) := by rw [IntKind.wrap_u8']; omega
  have i7 : IntKind.u8.wrap ((g : Int)) = (b7 : Int) := by rw [IntKind.wrap_u8']; omega
  have j0 : IntKind.u8.wrap ((n : Int) / 16777216) = (m0 : Int) := by rw [IntKind.wrap_u8']; omega
  have j1 : IntKind.u8.wrap ((n : Int) / 65536) = (m1 : Int) := by rw [IntKind.wrap_u8']; omega
  have j2 : IntKind.u8.wrap ((n : Int) / 256) = (m2 : Int) := by rw [IntKind.wrap_u8']; omega
  have j3 : IntKind.u8.wrap ((n : Int)) = (m3 : Int) := by rw [IntKind.wrap_u8']; omega
  have jj0 : (n : Int) / 16777216 % 256 = (m0 : Int) := by omega
  have jj1 : (n : Int) / 65536 % 256 = (m1 : Int) := by omega
  have jj2 : (n : Int) / 256 % 256 = (m2 : Int) := by omega
  have jj3 : (n : Int) % 256 = (m3 : Int) := by omega
  have hbv : (byteVals T).toArray = #[.int .u8 (b0 : Int), .int .u8 (b1 : Int), .int .u8 (b2 : Int), .int .u8 (b3 : Int), .int .u8 (b4 : Int), .int .u8 (b5 : Int), .int .u8 (b6 : Int), .int .u8 (b7 : Int), .int .u8 (m0 : Int), .int .u8 (m1 : Int), .int .u8 (m2 : Int), .int .u8 (m3 : Int)] := by
    rw [hT2]
    simp only [List.cons_append, List.nil_append, byteVals, List.map_cons, List.map_nil, byte_of _ _ c0, byte_of _ _ c1, byte_of _ _ c2, byte_of _ _ c3, byte_of _ _ c4, byte_of _ _ c5, byte_of _ _ c6, byte_of _ _ c7, byte_of _ _ d0, byte_of _ _ d1, byte_of _ _ d2, byte_of _ _ d3]
  have harr : ∀ W : World, W.heap[w.heap.size]? = some (.cells #[.int .u8 (b0 : Int), .int .u8 (b1 : Int), .int .u8 (b2 : Int), .int .u8 (b3 : Int), .int .u8 (b4 : Int), .int .u8 (b5 : Int), .int .u8 (b6 : Int), .int .u8 (b7 : Int), .int .u8 (m0 : Int), .int .u8 (m1 : Int), .int .u8 (m2 : Int), .int .u8 (m3 : Int)] 114 (0, 0)) → ArrIs W w.heap.size 114 T := fun W h => by unfold ArrIs; rw [hbv]; exact h
  have hcv := arr_string (b := w.heap.size) (T := 114) (l := T) (w.alloc (.cells #[.int .u8 (b0 : Int), .int .u8 (b1 : Int), .int .u8 (b2 : Int), .int .u8 (b3 : Int), .int .u8 (b4 : Int), .int .u8 (b5 : Int), .int .u8 (b6 : Int), .int .u8 (b7 : Int), .int .u8 (m0 : Int), .int .u8 (m1 : Int), .int .u8 (m2 : Int), .int .u8 (m3 : Int)] 114)) 12 (harr _ (World.alloc_heap_new _ _))
  rw [hTl] at hcv
  have hba := bytes_app T x
  have hTs : (⟨T.toArray⟩ : ByteArray).size = 12 := hTl
  have hbl := Go.Joins.below_alloc1 w (.cells #[.int .u8 (b0 : Int), .int .u8 (b1 : Int), .int .u8 (b2 : Int), .int .u8 (b3 : Int), .int .u8 (b4 : Int), .int .u8 (b5 : Int), .int .u8 (b6 : Int), .int .u8 (b7 : Int), .int .u8 (m0 : Int), .int .u8 (m1 : Int), .int .u8 (m2 : Int), .int .u8 (m3 : Int)] 114)
  have hBl := Lib.hid hbl
  clear hn hT hT2 hF harr hbv hbl ht hTl c0 c1 c2 c3 c4 c5 c6 c7 d0 d1 d2 d3
  go_enter Tryz.func41, Tryz.ntmps41
  go_wp2_with fail
  refine wp_loop_rounds 9 ?_
  rw [rounds_succ]; go_wp2_with fail
  rw [rounds_succ]; go_wp2_with fail
  rw [rounds_succ]; go_wp2_with fail
  rw [rounds_succ]; go_wp2_with fail
  rw [rounds_succ]; go_wp2_with fail
  rw [rounds_succ]; go_wp2_with fail
  rw [rounds_succ]; go_wp2_with fail
  rw [rounds_succ]; go_wp2_with fail
  rw [rounds_succ]; go_wp2_with fail
  refine wp_loop_rounds 5 ?_
  rw [rounds_succ]; go_wp2_with fail
  rw [rounds_succ]; go_wp2_with fail
  rw [rounds_succ]; go_wp2_with fail
  rw [rounds_succ]; go_wp2_with fail
  rw [rounds_succ]; go_wp2_with fail
  refine (HS.out _ (hTT.out.below hBl.out)).mono ?_
  rintro e w1 ⟨rfl, y1⟩
  go_wp2
  go_ret
  exact ⟨rfl, hBl.out.trans (y1.mono hBl.out.size)⟩
end Go.Proofs.YtmfbkelhegdmpaaGreatDoor
/- The walks of num.groups, num.Put and num.Size, chapter 13 (snap): the form of a number in groups of seven bits. -/
namespace Go.Proofs.YtmfbkelhegdmpaaGreatDoor
open Go.RowKit Disk11 Journal12 Sum2

attribute [local go_sem] Oper.semAt_some

/-- The groups of a number, the least one first, with their places. -/
def grpN (i n : Nat) : List (Nat × Nat) := (i, n % 128) :: if _h : n < 128 then [] else grpN (i + 1) (n / 128)
termination_by n
decreasing_by omega
theorem grp_last (i n : Nat) (h : n < 128) : grpN i n = [(i, n % 128)] := by rw [grpN, dif_pos h]
theorem grp_more (i n : Nat) (h : ¬ n < 128) : grpN i n = (i, n % 128) :: grpN (i + 1) (n / 128) := by rw [grpN, dif_neg h]
def encG (x : Nat × Nat) : Array Value := #[.int .i64 (x.1 : Int), .int .u8 (x.2 : Int)]
def cellNat (W : World) (c : Nat) : Nat := match W.cell? ⟨c, 0, none⟩ with | some (.int _ r) => r.toNat | _ => 0
theorem cell_ofE {W : World} {c t : Nat} {v : Value} (h : W.heap[c]? = some (.cells #[v] t (0, 0))) : W.cell? ⟨c, 0, none⟩ = some v := by simp [World.cell?, h]
theorem frozen_ofE {W : World} {c t : Nat} {v : Value} (h : W.heap[c]? = some (.cells #[v] t (0, 0))) : W.frozen? ⟨c, 0, none⟩ = false := by simp [World.frozen?, h]
theorem cellNat_of {W : World} {c t n : Nat} (h : W.heap[c]? = some (.cells #[.int .u64 (n : Int)] t (0, 0))) : cellNat W c = n := by unfold cellNat; rw [cell_ofE h]; simp
theorem set_heapE {W : World} {c t : Nat} {v : Value} (h : W.heap[c]? = some (.cells #[v] t (0, 0))) (u : Value) : (W.setCell ⟨c, 0, none⟩ u).heap[c]? = some (.cells #[u] t (0, 0)) := by
  have := Lib.heap_setCell_same (i := 0) h u
  simpa using this
theorem turned_setE {W : World} {c t : Nat} {v : Value} (h : W.heap[c]? = some (.cells #[v] t (0, 0))) (u : Value) : Turned c t W (W.setCell ⟨c, 0, none⟩ u) :=
  ⟨grownBy_setCell' W c u, u, set_heapE h u⟩

set_option maxHeartbeats 400000 in
theorem groups_any (n : Nat) (x : Int) (w : World) :
    CallsIn Fence.wide n Tryz.prog 95 #[.int .u64 x] w fun e w' => e = .returned (.func (.func 127) #[] #[.pointer (some ⟨w.heap.size, 0, none⟩)]) ∧ w' = w.alloc (.cells #[.int .u64 x] 30) := by
  refine callsIn_of_wp Tryz.func95 rfl trivial ?_ rfl
  simp only [Tryz.ntmps95, List.size_toArray, List.length_cons, List.length_nil, Nat.reduceAdd, Nat.reduceSub, Array.replicate_succ, Array.replicate_zero, List.push_toArray, List.append_toArray, List.nil_append, List.cons_append]
  gi_wp2
  go_ret
  exact ⟨rfl, rfl⟩

set_option maxHeartbeats 2000000 in
set_option maxRecDepth 100000 in
theorem groups1_any (n c x : Nat) (hx : x < 18446744073709551616) (L : List (Nat × Nat)) (hL0 : L = grpN 0 x) :
    SeqCell Fence.wide n Tryz.prog 127 #[.pointer (some ⟨c, 0, none⟩)] encG c 30 (fun _ => True) (.int .u64 (x : Int)) L := by
  intro l J Jx W hJ hJx _ hc hY h0
  refine callsIn_of_wp Tryz.func127 rfl trivial ?_ rfl
  simp only [Tryz.ntmps127, List.size_toArray, List.length_cons, List.length_nil, Nat.reduceAdd, Nat.reduceSub, Array.replicate_succ, Array.replicate_zero, List.push_toArray, List.append_toArray, List.nil_append, List.cons_append]
  gi_wp2
  gi_loopw [3] (fun i wr => ∃ (pre : List (Nat × Nat)) (k y : Nat), i = .int .i64 (k : Int) ∧ L = pre ++ grpN k y ∧ k ≤ 9 ∧ y < 128 ^ (10 - k) ∧ y < 18446744073709551616 ∧ wr.heap[c]? = some (.cells #[.int .u64 (y : Int)] 30 (0, 0)) ∧ J pre wr)
    (fun _ wr => cellNat wr c)
  case atStart => exact ⟨[], 0, x, rfl, hL0, by decide, by show x < 128 ^ 10; omega, hx, hc, h0⟩
  case round =>
    clear hL0
    obtain ⟨pre, k, y, rfl, hL, hk, hy1, hy2, hcr, hJs⟩ := hrel
    have hcell := cell_ofE hcr
    obtain ⟨r, hr⟩ : ∃ r, r = y % 128 := ⟨_, rfl⟩
    obtain ⟨q, hq⟩ : ∃ q, q = y / 128 := ⟨_, rfl⟩
    have ht1 : Int.tmod (y : Int) 128 = (r : Int) := by rw [Int.tmod_eq_emod_of_nonneg (by omega)]; omega
    have ht2 : Int.tdiv (y : Int) 128 = (q : Int) := by rw [Int.tdiv_eq_ediv_of_nonneg (by omega)]; omega
    have hw8 : IntKind.u8.wrap (r : Int) = (r : Int) := by rw [IntKind.wrap_u8']; omega
    have hw64 : IntKind.u64.wrap (q : Int) = (q : Int) := by simp [IntKind.wrap, IntKind.bits, IntKind.signed]; omega
    by_cases hlt : y < 128
    · have hlt' : decide ((128 : Int) ≤ y) = false := by simp; omega
      rw [grp_last _ _ hlt, ← hr] at hL
      obtain ⟨fn, tmps, assign, body, hy, hR⟩ := hY _ _ _ wr hL hJs
      unfold encG at hy
      dsimp only at hy
      clear hr hq hy1
      gi_wp2_with fail
      refine ⟨fun h => (by cases h), ?_⟩
      refine hR.mono ?_
      rintro e W3 (⟨rfl, hJ3, hc3⟩ | ⟨rfl, hJx3⟩)
      · have hcell3 := cell_ofE (hc3.trans hcr)
        gi_wp2
        exact ⟨rfl, _, results_none rfl _ _ _, ⟨_, rfl⟩, .inl (hL ▸ hJ3)⟩
      · gi_wp2
        exact ⟨rfl, _, results_none rfl _ _ _, ⟨_, rfl⟩, .inr ⟨_, by rw [hL]; exact List.prefix_refl _, hJx3⟩⟩
    · have hlt' : decide ((128 : Int) ≤ y) = true := by simp; omega
      rw [grp_more _ _ hlt, ← hr, ← hq] at hL
      obtain ⟨fn, tmps, assign, body, hy, hR⟩ := hY _ _ _ wr hL hJs
      unfold encG at hy
      dsimp only at hy
      have hk8 : k ≤ 8 := by
        rcases Nat.lt_or_ge k 9 with h | h
        · omega
        · have : k = 9 := by omega
          subst this
          exact absurd hy1 (by show ¬ y < 128; exact hlt)
      have hq1 : q < 128 ^ (10 - (k + 1)) := by
        rw [hq]
        refine Nat.div_lt_of_lt_mul ?_
        rw [Nat.mul_comm, ← Nat.pow_succ, show (10 - (k + 1)).succ = 10 - k by omega]; exact hy1
      have hqy : q < y := by omega
      have hq2 : q < 18446744073709551616 := by omega
      have hcn := cellNat_of hcr
      have hQ := Lib.hid (And.intro hq1 (And.intro hq2 hqy))
      clear hr hq hy1 hq1 hq2 hqy
      gi_wp2_with fail
      refine ⟨fun h => (by cases h), ?_⟩
      refine hR.mono ?_
      rintro e W3 (⟨rfl, hJ3, hc3⟩ | ⟨rfl, hJx3⟩)
      · have hh3 := hc3.trans hcr
        have hcell3 := cell_ofE hh3
        have hfro3 := frozen_ofE hh3
        gi_wp2
        refine ⟨⟨pre ++ [(k, r)], k + 1, q, by go_num, by rw [hL]; simp, by omega, hQ.out.1, hQ.out.2.1, set_heapE hh3 _, hJ _ _ _ hJ3 (turned_setE hh3 _)⟩, ?_⟩
        rw [cellNat_of (set_heapE hh3 _), hcn]
        exact hQ.out.2.2
      · gi_wp2
        exact ⟨rfl, _, results_none rfl _ _ _, ⟨_, rfl⟩, .inr ⟨_, by rw [hL]; exact ⟨_, by rw [List.append_assoc]; rfl⟩, hJx3⟩⟩
/-- The bytes of groups, the last one first. -/
def revB (l : List (Nat × Nat)) : List UInt8 := (l.map fun p => if p.1 = 0 then UInt8.ofNat p.2 else UInt8.ofNat (128 + p.2)).reverse
theorem revB_snoc (l : List (Nat × Nat)) (x : Nat × Nat) : revB (l ++ [x]) = (if x.1 = 0 then UInt8.ofNat x.2 else UInt8.ofNat (128 + x.2)) :: revB l := by
  unfold revB; rw [List.map_append, List.reverse_append]; rfl
theorem revB_cons (l : List (Nat × Nat)) (x : Nat × Nat) : revB (x :: l) = revB l ++ [if x.1 = 0 then UInt8.ofNat x.2 else UInt8.ofNat (128 + x.2)] := by
  unfold revB; rw [List.map_cons, List.reverse_cons]
theorem revB_length (l : List (Nat × Nat)) : (revB l).length = l.length := by unfold revB; simp
theorem revB_hi : ∀ (m n i : Nat), n ≤ m → n ≠ 0 → 1 ≤ i → revB (grpN i n) = hiN n
  | 0, n, i, h, h0, _ => absurd (Nat.le_zero.1 h) h0
  | m + 1, n, i, h, h0, hi => by
    rw [hiN_pos n h0]
    by_cases hl : n < 128
    · rw [grp_last _ _ hl, revB_cons, if_neg (by show ¬ i = 0; omega), show n / 128 = 0 by omega, hiN_zero]; rfl
    · rw [grp_more _ _ hl, revB_cons, if_neg (by show ¬ i = 0; omega), revB_hi m (n / 128) (i + 1) (by omega) (by omega) (by omega)]
theorem revB_put (n : Nat) : revB (grpN 0 n) = putN n := by
  unfold putN
  by_cases hl : n < 128
  · rw [grp_last _ _ hl, revB_cons, if_pos rfl, show n / 128 = 0 by omega, hiN_zero]; rfl
  · rw [grp_more _ _ hl, revB_cons, if_pos rfl, revB_hi _ (n / 128) 1 (Nat.le_refl _) (by omega) (by decide)]
theorem grp_length : ∀ (k n i : Nat), n < 128 ^ (k + 1) → (grpN i n).length ≤ k + 1
  | 0, n, i, h => by rw [grp_last _ _ (by simpa using h)]; simp
  | k + 1, n, i, h => by
    by_cases hl : n < 128
    · rw [grp_last _ _ hl]; simp
    · rw [grp_more _ _ hl, List.length_cons]
      have := grp_length k (n / 128) (i + 1) (Nat.div_lt_of_lt_mul (by rw [Nat.mul_comm, ← Nat.pow_succ]; exact h))
      omega
theorem grp_small : ∀ (m n i : Nat), n ≤ m → ∀ x ∈ grpN i n, x.2 < 128
  | m, n, i, h, x, hx => by
    by_cases hl : n < 128
    · rw [grp_last _ _ hl, List.mem_singleton] at hx
      rw [hx]; show n % 128 < 128; omega
    · rw [grp_more _ _ hl, List.mem_cons] at hx
      rcases hx with rfl | hx
      · show n % 128 < 128; omega
      · match m, h with
        | 0, h => omega
        | m + 1, h => exact grp_small m (n / 128) (i + 1) (by omega) x hx
theorem arr_cell {W : World} {A T : Nat} {l : List UInt8} (h : ArrIs W A T l) (j : Nat) (hj : j < l.length) : W.cell? ⟨A, j, none⟩ = some (.int .u8 (l[j].toNat : Int)) := by
  rw [cell_of_row W A j _ _ _ h, List.getElem?_toArray, byteVals_get, List.getElem?_eq_getElem hj]; rfl
theorem arr_frozen {W : World} {A T : Nat} {l : List UInt8} (h : ArrIs W A T l) (j : Nat) : W.frozen? ⟨A, j, none⟩ = false := by
  unfold ArrIs at h
  simp [World.frozen?, h]
theorem arr_set {W : World} {A T : Nat} {l : List UInt8} (h : ArrIs W A T l) (j b : Nat) (hb : b < 256) : ArrIs (W.setCell ⟨A, j, none⟩ (.int .u8 (b : Int))) A T (l.set j (UInt8.ofNat b)) := by
  unfold ArrIs at *
  have := Lib.heap_setCell_same (i := j) h (.int .u8 (b : Int))
  rw [this]
  congr 2
  apply Array.ext'
  unfold byteVals
  simp [List.map_set]
  rw [show (b : Int) % 256 = (b : Int) by omega]
theorem or_128 (d : Nat) (h : d < 128) : bits .or .u8 (d : Int) 128 = ((128 + d : Nat) : Int) := by
  have hx : d ||| 128 = 128 + d := by rw [Nat.or_comm]; exact (Nat.two_pow_add_eq_or_of_lt (i := 7) h 1).symm
  show IntKind.u8.wrap ((BitVec.ofInt 8 (d : Int) ||| BitVec.ofInt 8 128).toNat : Int) = _
  have q1 : (BitVec.ofInt 8 (d : Int)).toNat = d := by rw [BitVec.toNat_ofInt]; omega
  have q2 : (BitVec.ofInt 8 128).toNat = 128 := by decide
  rw [BitVec.toNat_or, q1, q2, hx, IntKind.wrap_u8']; omega
theorem set_front (p : Nat) (F : List UInt8) (c : UInt8) : (List.replicate (p + 1) 0 ++ F).set p c = List.replicate p 0 ++ (c :: F) := by
  rw [List.replicate_succ', List.append_assoc, List.set_append_right _ _ (by simp)]
  simp
theorem set_again (p : Nat) (F : List UInt8) (c c' : UInt8) : (List.replicate p 0 ++ (c :: F)).set p c' = List.replicate p 0 ++ (c' :: F) := by
  rw [List.set_append_right _ _ (by simp)]
  simp
theorem other_set {W : World} {g k j : Nat} {o : Obj} (h : W.heap[k]? = some o) (hk : k ≠ g) (u : Value) : (W.setCell ⟨g, j, none⟩ u).heap[k]? = some o :=
  ((grown_cell W g j u).block k (Array.getElem?_eq_some_iff.1 h).1 (fun e => hk (by cases e; rfl))).trans h
theorem slice_ten (b f : Nat) (hf : f ≤ 9) (W : World) : (Instr.sliceAt 138 (.pointer (some ⟨b, 0, none⟩)) (some (.int .i64 (f : Int))) none none).run Tryz.prog W = .ok (.slice (some ⟨b, f, none⟩) (10 - f) (10 - f)) W := by
  have hl : Tryz.prog.arrayLen 138 = 10 := by kernel_rfl
  have hz : (Go.sizeOf (Tryz.prog.elem 138)).run Tryz.prog W = .ok 1 W := by
    rw [show Tryz.prog.elem 138 = 5 by kernel_rfl]
    exact Tryz.sizeOf5 W
  have hu : Tryz.prog.underlying 138 = some (.array (Tryz.prog.arrayLen 138) (Tryz.prog.elem 138)) := by kernel_rfl
  rw [run_sliceAt_array_l W 138 ⟨b, 0, none⟩ hu .i64 (f : Int) (by omega) (by rw [hl]; omega), hz, hl]
  simp only [Result.andThen, slicedAt, Int.toNat_natCast, Nat.mul_one]
  rw [if_neg (by omega), addr_add]
/-- What stands of the caller's between two rounds: the bytes, the place of the last one, the number's cell. -/
def PutG (w : World) (pre : List (Nat × Nat)) (W : World) : Prop :=
  ArrIs W w.heap.size 138 (List.replicate (10 - pre.length) 0 ++ revB pre) ∧ W.heap[w.heap.size + 1]? = some (.cells #[.int .i64 ((10 - pre.length : Nat) : Int)] 3 (0, 0)) ∧ Below w.heap.size w W ∧ ∃ v, W.heap[w.heap.size + 1 + 1]? = some (.cells #[v] 30 (0, 0))
theorem putG_mine (w : World) (B : Nat) (hB : w.heap.size + 1 + 1 < B) : Mine (w.heap.size + 1 + 1) 30 B (PutG w) := by
  refine ⟨fun s A A' ⟨h1, h2, hbl, v, hv⟩ hT => ⟨?_, ?_, hbl.grown hT.1 hbl.size (fun k hk => by cases hk; omega), hT.2⟩,
    fun s A A' k ⟨h1, h2, hbl, v, hv⟩ hg hk _ => ⟨?_, ?_, hbl.grown hg hbl.size (fun j hj => by cases hj; omega), v, ?_⟩⟩
  · exact (hT.1.block _ (Array.getElem?_eq_some_iff.1 h1).1 (fun e => by have := Option.some.inj e; omega)).trans h1
  · exact (hT.1.block _ (Array.getElem?_eq_some_iff.1 h2).1 (fun e => by have := Option.some.inj e; omega)).trans h2
  · exact (hg.block _ (Array.getElem?_eq_some_iff.1 h1).1 (fun e => by have := Option.some.inj e; omega)).trans h1
  · exact (hg.block _ (Array.getElem?_eq_some_iff.1 h2).1 (fun e => by have := Option.some.inj e; omega)).trans h2
  · exact (hg.block _ (Array.getElem?_eq_some_iff.1 hv).1 (fun e => by have := Option.some.inj e; omega)).trans hv
set_option maxHeartbeats 4000000 in
set_option maxRecDepth 100000 in
theorem Put_any13 (x : Nat) (hx : x < 18446744073709551616) (w : World) :
    Calls Tryz.prog 52 #[.int .u64 (x : Int)] w fun e w' => e = .returned (.string ⟨(putN x).toArray⟩) ∧ Below w.heap.size w w' := by
  refine (callsIn_wide (n := 9)).1 ?_
  refine callsIn_of_wp_marks Tryz.func52 rfl trivial ?_ rfl
  simp only [Tryz.ntmps52, List.size_toArray, List.length_cons, List.length_nil, Nat.reduceAdd, Nat.reduceSub, Array.replicate_succ, Array.replicate_zero, List.push_toArray, List.append_toArray, List.nil_append, List.cons_append]
  have hp := fun n W => groups_any n (x : Int) W
  gi_wp2_with (refine ⟨trivial, ?_⟩; gi_at_call 95; refine (hp _ _).mono ?_; clear hp; rintro e w' ⟨rfl, rfl⟩)
  obtain ⟨L, hL⟩ : ∃ L, L = grpN 0 x := ⟨_, rfl⟩
  have hLs := grp_small x x 0 (Nat.le_refl _)
  have hLl := grp_length 9 x 0 (by show x < 128 ^ 10; omega)
  have hLp := revB_put x
  rw [← hL] at hLs hLl hLp
  obtain ⟨W0, hW0⟩ : ∃ W0, ((w.alloc (.cells #[.int .u8 0, .int .u8 0, .int .u8 0, .int .u8 0, .int .u8 0, .int .u8 0, .int .u8 0, .int .u8 0, .int .u8 0, .int .u8 0] 138)).alloc (.cells #[.int .i64 10] 3)).alloc (.cells #[.int .u64 (x : Int)] 30) = W0 := ⟨_, rfl⟩
  rw [hW0]
  have hs0 : W0.heap.size = w.heap.size + 3 := by rw [← hW0]; simp
  have z0 : ArrIs W0 w.heap.size 138 (List.replicate (10 - ([] : List (Nat × Nat)).length) 0 ++ revB []) := by
    unfold ArrIs
    rw [← hW0, Below.heap_alloc _ _ _ (by simp only [World.size_alloc]; omega), Below.heap_alloc _ _ _ (by simp)]
    exact World.alloc_heap_new w _
  have z1 : W0.heap[w.heap.size + 1]? = some (.cells #[.int .i64 ((10 - ([] : List (Nat × Nat)).length : Nat) : Int)] 3 (0, 0)) := by
    rw [← hW0, Below.heap_alloc _ _ _ (by simp)]
    have := World.alloc_heap_new (w.alloc (.cells #[.int .u8 0, .int .u8 0, .int .u8 0, .int .u8 0, .int .u8 0, .int .u8 0, .int .u8 0, .int .u8 0, .int .u8 0, .int .u8 0] 138)) (.cells #[.int .i64 10] 3)
    rwa [World.size_alloc] at this
  have z2 : W0.heap[w.heap.size + 1 + 1]? = some (.cells #[.int .u64 (x : Int)] 30 (0, 0)) := by
    rw [← hW0]
    have := World.alloc_heap_new ((w.alloc (.cells #[.int .u8 0, .int .u8 0, .int .u8 0, .int .u8 0, .int .u8 0, .int .u8 0, .int .u8 0, .int .u8 0, .int .u8 0, .int .u8 0] 138)).alloc (.cells #[.int .i64 10] 3)) (.cells #[.int .u64 (x : Int)] 30)
    rwa [World.size_alloc, World.size_alloc] at this
  have hb0 : Below w.heap.size w W0 := by
    rw [← hW0]
    exact (((Below.refl _ w).alloc (Nat.le_refl _) _).alloc (by rw [World.size_alloc]; omega) _).alloc (by rw [World.size_alloc, World.size_alloc]; omega) _
  clear hW0
  refine range_cell rfl (by omega) (gf := 127) (lb := #[.pointer (some ⟨w.heap.size + 1 + 1, 0, none⟩)]) rfl trivial (enters_of Tryz.func127 (by kernel_rfl) rfl)
    (groups1_any _ _ x hx L hL) z2 (fun _ => rfl) (PutG w) (fun _ _ _ => False) (putG_mine w _ (by omega)) (fun _ _ _ => trivial) (fun _ => ⟨fun _ _ _ h _ => h, fun _ _ _ _ h _ _ _ => h⟩)
    (fun W hb => ⟨(hb.block _ (by omega)).trans z0, (hb.block _ (by omega)).trans z1, hb0.trans (hb.mono hb0.size), _, (hb.block _ (by omega)).trans z2⟩)
    (fun p => { tmps := #[.int .u64 (x : Int), undef, .string ⟨#[]⟩, .pointer (some ⟨w.heap.size, 0, none⟩), .pointer (some ⟨w.heap.size + 1, 0, none⟩), .int .i64 (p.1 : Int), .int .u8 (p.2 : Int), .int .u64 (x : Int), .func (.func 127) #[] #[.pointer (some ⟨w.heap.size + 1 + 1, 0, none⟩)], .int .i64 (p.1 : Int), .int .u8 (p.2 : Int), undef, undef, undef, undef, undef, undef, undef, undef, undef, undef, undef, undef, undef, undef, undef], defers := [] }) ?assign ?body ?done ?stop
  case assign =>
    intro l p W K hK
    unfold encG
    gi_wp2
    exact hK
  case body =>
    rintro l pre p post W hx2 ⟨h1, h2, h3, v, h4⟩
    have hlen := congrArg List.length hx2
    rw [List.length_append, List.length_cons] at hlen
    have hp2 := hLs p (by rw [hx2]; simp)
    obtain ⟨q, hq⟩ : ∃ q, 10 - pre.length = q + 1 := ⟨9 - pre.length, by omega⟩
    have hq9 : q ≤ 9 := by omega
    have hql : 10 - (pre ++ [p]).length = q := by rw [List.length_append]; show 10 - (pre.length + 1) = q; omega
    rw [hq] at h1 h2
    obtain ⟨F, hF⟩ : ∃ F, F = revB pre := ⟨_, rfl⟩
    rw [← hF] at h1
    obtain ⟨d, hd⟩ : ∃ d, d = p.2 := ⟨_, rfl⟩
    rw [← hd] at hp2
    have hw := h3.size
    rw [show ((q + 1 : Nat) : Int) = (q : Int) + 1 by omega] at h2
    have u1 := cell_ofE h2
    have f1 := frozen_ofE h2
    have k1 := set_heapE h2 (.int .i64 (q : Int))
    have v1 := cell_ofE k1
    have a1 := other_set (g := w.heap.size + 1) (j := 0) h1 (by omega) (.int .i64 (q : Int))
    change ArrIs _ _ _ _ at a1
    have hl1 : (List.replicate (q + 1) 0 ++ F).length = q + 1 + F.length := by simp
    obtain ⟨zc, c1⟩ : ∃ zc, (W.setCell ⟨w.heap.size + 1, 0, none⟩ (.int .i64 (q : Int))).cell? ⟨w.heap.size, q, none⟩ = some zc := ⟨_, arr_cell a1 q (by omega)⟩
    have fz1 := arr_frozen a1 q
    have a2 := arr_set a1 q d (by omega)
    rw [set_front] at a2
    have k2 := other_set (g := w.heap.size) (j := q) k1 (by omega) (.int .u8 (d : Int))
    have v2 := cell_ofE k2
    have hl2 : q < (List.replicate q 0 ++ (UInt8.ofNat d :: F)).length := by simp
    have c2 := arr_cell a2 q hl2
    rw [List.getElem_append_right (by simp)] at c2
    simp only [List.length_replicate, Nat.sub_self, List.getElem_cons_zero] at c2
    rw [UInt8.toNat_ofNat', Nat.mod_eq_of_lt (by omega)] at c2
    have fz2 := arr_frozen a2 q
    have a3 := arr_set a2 q (128 + d) (by omega)
    rw [set_again] at a3
    have k3 := other_set (g := w.heap.size) (j := q) k2 (by omega) (.int .u8 ((128 + d : Nat) : Int))
    have b1 := below_set (j := 0) (u := .int .i64 (q : Int)) h3 (by omega : w.heap.size ≤ w.heap.size + 1)
    have b2 := below_set (j := q) (u := .int .u8 (d : Int)) b1 (Nat.le_refl _)
    have b3 := below_set (j := q) (u := .int .u8 ((128 + d : Nat) : Int)) b2 (Nat.le_refl _)
    have n1 := other_set (g := w.heap.size + 1) (j := 0) h4 (by omega) (.int .i64 (q : Int))
    have n2 := other_set (g := w.heap.size) (j := q) n1 (by omega) (.int .u8 (d : Int))
    have n3 := other_set (g := w.heap.size) (j := q) n2 (by omega) (.int .u8 ((128 + d : Nat) : Int))
    have hor := or_128 d hp2
    have e128 : ((128 + d : Nat) : Int) = 128 + (d : Int) := by omega
    rw [e128] at a3 k3 b3 n3 hor
    have hkeep2 : KeepsFrom W0.heap.size W ((W.setCell ⟨w.heap.size + 1, 0, none⟩ (.int .i64 (q : Int))).setCell ⟨w.heap.size, q, none⟩ (.int .u8 (d : Int))) :=
      ⟨Nat.le_trans (grown_cell _ _ _ _).size (grown_cell _ _ _ _).size, fun k o hk ho _ => other_set (other_set ho (by omega) _) (by omega) _⟩
    have hkeep3 : KeepsFrom W0.heap.size W (((W.setCell ⟨w.heap.size + 1, 0, none⟩ (.int .i64 (q : Int))).setCell ⟨w.heap.size, q, none⟩ (.int .u8 (d : Int))).setCell ⟨w.heap.size, q, none⟩ (.int .u8 (128 + (d : Int)))) :=
      ⟨Nat.le_trans (Nat.le_trans (grown_cell _ _ _ _).size (grown_cell _ _ _ _).size) (grown_cell _ _ _ _).size, fun k o hk ho _ => other_set (other_set (other_set ho (by omega) _) (by omega) _) (by omega) _⟩
    rw [← hd]
    have hX2 := Lib.hid (And.intro a2 (And.intro k2 (And.intro b2 (And.intro n2 hkeep2))))
    have hX3 := Lib.hid (And.intro a3 (And.intro k3 (And.intro b3 (And.intro n3 hkeep3))))
    have h4' := Lib.hid h4
    have hF' := Lib.hid hF
    have hql' := Lib.hid hql
    have hd' := Lib.hid hd
    clear hL hLs hLp hlen hx2 hF hq hd a1 a2 a3 k1 k2 k3 b1 b2 b3 n1 n2 n3 h1 h2 h4 hkeep2 hkeep3 z0 z1 z2
    by_cases hp0 : p.1 = 0
    · have hp0' : decide (0 < (p.1 : Int)) = false := by simp; omega
      gi_wp2
      obtain ⟨a2, k2, b2, n2, kp⟩ := hX2.out
      refine ⟨kp, n2.trans h4'.out.symm, ?_, by rw [hql'.out]; exact k2, b2, v, n2⟩
      rw [hql'.out, revB_snoc, if_pos hp0, ← hd'.out, ← hF'.out]; exact a2
    · have hp0' : decide (0 < (p.1 : Int)) = true := by simp; omega
      gi_wp2
      obtain ⟨a2, k2, b2, n2, kp⟩ := hX3.out
      refine ⟨kp, n2.trans h4'.out.symm, ?_, by rw [hql'.out]; exact k2, b2, v, n2⟩
      rw [hql'.out, revB_snoc, if_neg hp0, ← hd'.out, ← hF'.out]; exact a2
  case done =>
    rintro D W hD ⟨h1, h2, h3, v, h4⟩ hK
    have hL1 : 1 ≤ L.length := by rw [hL, grpN]; simp
    obtain ⟨f, hf⟩ : ∃ f, f = 10 - L.length := ⟨_, rfl⟩
    rw [← hf] at h1 h2
    have hf9 : f ≤ 9 := by omega
    have hfl : 10 - f = L.length := by omega
    have hlen : (putN x).length = 10 - f := by rw [← hLp, revB_length]; omega
    rw [hLp] at h1
    have u1 := cell_ofE h2
    have hsl := fun W => slice_ten w.heap.size f hf9 W
    have hcv : (convert 52 9 (.slice (some ⟨w.heap.size, f, none⟩) (10 - f) (10 - f))).run Tryz.prog W = .ok (.string ⟨(putN x).toArray⟩) W := by
      rw [← hlen]
      refine run_convert_bytes_back W _ _ 5 _ _ (putN x) Tryz.underlying52 Tryz.underlying5 Tryz.underlying9 (fun j hj => ?_)
      have e : (⟨w.heap.size, f, none⟩ : Addr).add j = ⟨w.heap.size, f + j, none⟩ := by
        unfold Addr.add
        by_cases hj0 : j = 0
        · subst hj0; rfl
        · simp; exact hj0
      rw [e]
      have hj2 : f + j < (List.replicate f (0 : UInt8) ++ putN x).length := by simp; omega
      rw [arr_cell h1 (f + j) hj2]
      congr 4
      rw [List.getElem_append_right (by simp)]
      simp
    have hs9 := hb0.size
    have hK' := Lib.hid hK
    have hd1 : D ≠ w.heap.size := by omega
    clear hL hLs hLp hlen h1 h2 h4 z0 z1 z2 hf hfl hK
    gi_wp2
    refine ⟨by simp, .inl ⟨_, _, rfl, run_takeDeferred (show W.heap[D]? = _ from hK'.out), ?_⟩⟩
    exact ⟨_, results_tmp rfl _ _ _, rfl, h3.trans (belowK_b (w := w) (Nat.le_refl _) W D _ _ (by omega) hK'.out rfl rfl)⟩
  case stop =>
    rintro D j pre W _ _ h _
    exact h.elim
theorem grp_index : ∀ (m n i : Nat), n ≤ m → ∀ (j : Nat) (h : j < (grpN i n).length), (grpN i n)[j].1 = i + j
  | m, n, i, hm, j, h => by
    by_cases hl : n < 128
    · have e := grp_last i n hl
      have hj : j = 0 := by rw [e] at h; simpa using h
      subst hj
      simp only [e, List.getElem_cons_zero]; rfl
    · have e := grp_more i n hl
      match j, h with
      | 0, h => simp only [e, List.getElem_cons_zero]; rfl
      | j + 1, h =>
        match m, hm with
        | 0, hm => omega
        | m + 1, hm =>
          have h' : j < (grpN (i + 1) (n / 128)).length := by rw [e, List.length_cons] at h; omega
          have := grp_index m (n / 128) (i + 1) (by omega) j h'
          simp only [e, List.getElem_cons_succ]
          omega
/-- What stands of the caller's between two rounds: how many groups came. -/
def SizeG (w : World) (pre : List (Nat × Nat)) (W : World) : Prop :=
  W.heap[w.heap.size]? = some (.cells #[.int .i64 (pre.length : Int)] 3 (0, 0)) ∧ Below w.heap.size w W ∧ ∃ v, W.heap[w.heap.size + 1]? = some (.cells #[v] 30 (0, 0))
theorem sizeG_mine (w : World) (B : Nat) (hB : w.heap.size + 1 < B) : Mine (w.heap.size + 1) 30 B (SizeG w) := by
  refine ⟨fun s A A' ⟨h2, hbl, v, hv⟩ hT => ⟨?_, hbl.grown hT.1 hbl.size (fun k hk => by cases hk; omega), hT.2⟩,
    fun s A A' k ⟨h2, hbl, v, hv⟩ hg hk _ => ⟨?_, hbl.grown hg hbl.size (fun j hj => by cases hj; omega), v, ?_⟩⟩
  · exact (hT.1.block _ (Array.getElem?_eq_some_iff.1 h2).1 (fun e => by have := Option.some.inj e; omega)).trans h2
  · exact (hg.block _ (Array.getElem?_eq_some_iff.1 h2).1 (fun e => by have := Option.some.inj e; omega)).trans h2
  · exact (hg.block _ (Array.getElem?_eq_some_iff.1 hv).1 (fun e => by have := Option.some.inj e; omega)).trans hv
set_option maxHeartbeats 4000000 in
set_option maxRecDepth 100000 in
theorem Size_any13 (x : Nat) (hx : x < 18446744073709551616) (w : World) :
    Calls Tryz.prog 71 #[.int .u64 (x : Int)] w fun e w' => e = .returned (.int .i64 ((putN x).length : Nat)) ∧ Below w.heap.size w w' := by
  refine (callsIn_wide (n := 9)).1 ?_
  refine callsIn_of_wp_marks Tryz.func71 rfl trivial ?_ rfl
  simp only [Tryz.ntmps71, List.size_toArray, List.length_cons, List.length_nil, Nat.reduceAdd, Nat.reduceSub, Array.replicate_succ, Array.replicate_zero, List.push_toArray, List.append_toArray, List.nil_append, List.cons_append]
  have hp := fun n W => groups_any n (x : Int) W
  gi_wp2_with (refine ⟨trivial, ?_⟩; gi_at_call 95; refine (hp _ _).mono ?_; clear hp; rintro e w' ⟨rfl, rfl⟩)
  obtain ⟨L, hL⟩ : ∃ L, L = grpN 0 x := ⟨_, rfl⟩
  have hLl := grp_length 9 x 0 (by show x < 128 ^ 10; omega)
  have hLp := revB_put x
  have hLi := grp_index x x 0 (Nat.le_refl _)
  rw [← hL] at hLl hLp
  obtain ⟨W0, hW0⟩ : ∃ W0, (w.alloc (.cells #[.int .i64 0] 3)).alloc (.cells #[.int .u64 (x : Int)] 30) = W0 := ⟨_, rfl⟩
  rw [hW0]
  have hs0 : W0.heap.size = w.heap.size + 2 := by rw [← hW0]; simp
  have z1 : W0.heap[w.heap.size]? = some (.cells #[.int .i64 (([] : List (Nat × Nat)).length : Int)] 3 (0, 0)) := by
    rw [← hW0, Below.heap_alloc _ _ _ (by simp)]
    exact World.alloc_heap_new w _
  have z2 : W0.heap[w.heap.size + 1]? = some (.cells #[.int .u64 (x : Int)] 30 (0, 0)) := by
    rw [← hW0]
    have := World.alloc_heap_new (w.alloc (.cells #[.int .i64 0] 3)) (.cells #[.int .u64 (x : Int)] 30)
    rwa [World.size_alloc] at this
  have hb0 : Below w.heap.size w W0 := by
    rw [← hW0]
    exact ((Below.refl _ w).alloc (Nat.le_refl _) _).alloc (by rw [World.size_alloc]; omega) _
  clear hW0
  refine range_cell rfl (by omega) (gf := 127) (lb := #[.pointer (some ⟨w.heap.size + 1, 0, none⟩)]) rfl trivial (enters_of Tryz.func127 (by kernel_rfl) rfl)
    (groups1_any _ _ x hx L hL) z2 (fun _ => rfl) (SizeG w) (fun _ _ _ => False) (sizeG_mine w _ (by omega)) (fun _ _ _ => trivial) (fun _ => ⟨fun _ _ _ h _ => h, fun _ _ _ _ h _ _ _ => h⟩)
    (fun W hb => ⟨(hb.block _ (by omega)).trans z1, hb0.trans (hb.mono hb0.size), _, (hb.block _ (by omega)).trans z2⟩)
    (fun p => { tmps := #[.int .u64 (x : Int), undef, .int .i64 0, .pointer (some ⟨w.heap.size, 0, none⟩), .int .i64 (p.1 : Int), .int .u64 (x : Int), .func (.func 127) #[] #[.pointer (some ⟨w.heap.size + 1, 0, none⟩)], .int .i64 (p.1 : Int), .int .u8 (p.2 : Int), undef, undef, undef], defers := [] }) ?assign ?body ?done ?stop
  case assign =>
    intro l p W K hK
    unfold encG
    gi_wp2
    exact hK
  case body =>
    rintro l pre p post W hx2 ⟨h2, h3, v, h4⟩
    have hlen := congrArg List.length hx2
    rw [List.length_append, List.length_cons] at hlen
    have hpi : p.1 = pre.length := by
      have h := hLi pre.length (by rw [← hL, hlen]; omega)
      simp only [← hL, hx2, List.getElem_append_right (Nat.le_refl _), Nat.sub_self, List.getElem_cons_zero, Nat.zero_add] at h
      exact h
    have hpb : pre.length ≤ 10 := by omega
    have hw := h3.size
    have u1 := cell_ofE h2
    have f1 := frozen_ofE h2
    have k1 := set_heapE h2 (.int .i64 ((pre.length : Int) + 1))
    have b1 := below_set (j := 0) (u := .int .i64 ((pre.length : Int) + 1)) h3 (Nat.le_refl _)
    have n1 := other_set (g := w.heap.size) (j := 0) h4 (by omega) (.int .i64 ((pre.length : Int) + 1))
    have hkeep : KeepsFrom W0.heap.size W (W.setCell ⟨w.heap.size, 0, none⟩ (.int .i64 ((pre.length : Int) + 1))) :=
      ⟨(grown_cell _ _ _ _).size, fun k o hk ho _ => other_set ho (by omega) _⟩
    have hX := Lib.hid (And.intro k1 (And.intro b1 (And.intro n1 (And.intro hkeep h4))))
    obtain ⟨i, hi⟩ : ∃ i, i = p.1 := ⟨_, rfl⟩
    rw [← hi] at hpi ⊢
    subst hpi
    clear hL hLl hLp hLi hlen hx2 k1 b1 n1 hkeep h2 h4 z1 z2 hi
    gi_wp2
    obtain ⟨k1, b1, n1, kp, h4⟩ := hX.out
    exact ⟨kp, n1.trans h4.symm, by rw [List.length_append]; exact k1, b1, v, n1⟩
  case done =>
    rintro D W hD ⟨h2, h3, v, h4⟩ hK
    have hlen := Lib.hid (show (putN x).length = L.length by rw [← hLp, revB_length])
    have u1 := cell_ofE h2
    have hs9 := hb0.size
    have hK' := Lib.hid hK
    clear hL hLl hLp hLi h2 h4 z1 z2 hK
    gi_wp2
    refine ⟨by simp, .inl ⟨_, _, rfl, run_takeDeferred (show W.heap[D]? = _ from hK'.out), ?_⟩⟩
    exact ⟨_, results_tmp rfl _ _ _, by rw [hlen.out]; rfl, h3.trans (belowK_b (w := w) (Nat.le_refl _) W D _ _ (by omega) hK'.out rfl rfl)⟩
  case stop =>
    rintro D j pre W _ _ h _
    exact h.elim
end Go.Proofs.YtmfbkelhegdmpaaGreatDoor
/- The walks of the reference's Put and Size of numbers, and of a prefix that is cut, chapter 13 (snap). -/
namespace Go.Proofs.YtmfbkelhegdmpaaGreatDoor
open Go.RowKit Disk11 Journal12 Sum2

theorem putN_le (x : Nat) (hx : x < 18446744073709551616) : (putN x).length ≤ 10 := by
  unfold putN
  rw [List.length_append]
  have := hiN_length 9 (x / 128) (by omega)
  simp; omega
theorem putN_step (y : Nat) (h : ¬ y < 128) : (putN y).length = (putN (y / 128)).length + 1 := by
  unfold putN
  rw [hiN_pos (y / 128) (by omega)]
  simp
set_option maxHeartbeats 2000000 in
set_option maxRecDepth 100000 in
theorem RPut_any13 (x : Nat) (hx : x < 18446744073709551616) (w : World) :
    Calls Tryz.prog 62 #[.int .u64 (x : Int)] w fun e w' => e = .returned (.string ⟨(putN x).toArray⟩) ∧ Below w.heap.size w w' := by
  have hle := putN_le x hx
  obtain ⟨r0, hr0⟩ : ∃ r, r = x % 128 := ⟨_, rfl⟩
  obtain ⟨q0, hq0⟩ : ∃ q, q = x / 128 := ⟨_, rfl⟩
  have ht1 : Int.tmod (x : Int) 128 = (r0 : Int) := by rw [Int.tmod_eq_emod_of_nonneg (by omega)]; omega
  have ht2 : Int.tdiv (x : Int) 128 = (q0 : Int) := by rw [Int.tdiv_eq_ediv_of_nonneg (by omega)]; omega
  have hw8 : IntKind.u8.wrap (r0 : Int) = (r0 : Int) := by rw [IntKind.wrap_u8']; omega
  have hw64 : IntKind.u64.wrap (q0 : Int) = (q0 : Int) := by simp [IntKind.wrap, IntKind.bits, IntKind.signed]; omega
  have hcv := one_string_s r0 (by omega) w
  have al := Go.Joins.below_alloc1 w (.cells #[.int .u8 (r0 : Int)] 5)
  have hst : hiN q0 ++ [UInt8.ofNat r0] = putN x := by unfold putN; rw [hq0, hr0]
  have hq64 : q0 < 18446744073709551616 := by omega
  obtain ⟨P, hP⟩ : ∃ P, P = putN x := ⟨_, rfl⟩
  rw [← hP] at hle hst ⊢
  have hst' := Lib.hid hst
  clear hr0 hq0 hP hst
  go_enter Tryz.func62, Tryz.ntmps62
  go_wp2
  go_loopw [0, 3] (fun t o wr => ∃ (y : Nat) (l : List UInt8), t = .int .u64 (y : Int) ∧ y < 18446744073709551616 ∧ o = .string ⟨l.toArray⟩ ∧ Hid (hiN y ++ l = P) ∧ Below w.heap.size w wr) (fun t _ _ => (intOf t).toNat)
  case atStart => exact ⟨q0, [UInt8.ofNat r0], rfl, hq64, rfl, hst', al⟩
  case round =>
    obtain ⟨y, l, rfl, hy, rfl, hyl, hb⟩ := hrel
    by_cases h0 : y = 0
    · subst h0
      have hlt : decide (0 < ((0 : Nat) : Int)) = false := by simp
      have hl : l = P := by have := hyl.out; rwa [hiN_zero, List.nil_append] at this
      subst hl
      go_wp2
      go_ret
      exact ⟨rfl, hb⟩
    · have hlt : decide (0 < (y : Int)) = true := by simp; omega
      obtain ⟨r, hr⟩ : ∃ r, r = y % 128 := ⟨_, rfl⟩
      obtain ⟨q, hq⟩ : ∃ q, q = y / 128 := ⟨_, rfl⟩
      have s1 : Int.tmod (y : Int) 128 = (r : Int) := by rw [Int.tmod_eq_emod_of_nonneg (by omega)]; omega
      have s2 : Int.tdiv (y : Int) 128 = (q : Int) := by rw [Int.tdiv_eq_ediv_of_nonneg (by omega)]; omega
      have s3 : IntKind.u8.wrap (128 + (r : Int)) = ((128 + r : Nat) : Int) := by rw [IntKind.wrap_u8']; omega
      have s4 : IntKind.u64.wrap (q : Int) = (q : Int) := by simp [IntKind.wrap, IntKind.bits, IntKind.signed]; omega
      have s5 : IntKind.u64.wrap (128 + (r : Int)) = 128 + (r : Int) := by simp [IntKind.wrap, IntKind.bits, IntKind.signed]; omega
      obtain ⟨z, hz⟩ : ∃ z, z = 128 + r := ⟨_, rfl⟩
      have hz2 : z < 256 := by omega
      rw [← hz] at s3
      have c1 := one_string_s z hz2 wr
      have a1 := Go.Joins.below_alloc1 wr (.cells #[.int .u8 (z : Int)] 5)
      have hba : (⟨[UInt8.ofNat z].toArray⟩ : ByteArray) ++ ⟨l.toArray⟩ = ⟨(UInt8.ofNat z :: l).toArray⟩ := bytes_app _ _
      have hll : l.length ≤ 10 := by have := congrArg List.length hyl.out; rw [List.length_append] at this; omega
      have hsz : (⟨l.toArray⟩ : ByteArray).size = l.length := rfl
      have hn := Lib.hid (show hiN q ++ (UInt8.ofNat z :: l) = P by
        have := hyl.out
        rw [hiN_pos y h0, ← hq, ← hr, ← hz, List.append_assoc] at this
        exact this)
      have hB := Lib.hid (hb.trans (a1.mono hb.size))
      have hqy : q < y := by omega
      have hq64' : q < 18446744073709551616 := by omega
      clear hr hq hz hb a1 hyl h0
      go_wp2
      exact ⟨⟨q, _, rfl, hq64', rfl, hn, hB.out⟩, by simp [intOf]; omega⟩
set_option maxHeartbeats 2000000 in
set_option maxRecDepth 100000 in
theorem RSize_any13 (x : Nat) (hx : x < 18446744073709551616) (w : World) :
    Calls Tryz.prog 73 #[.int .u64 (x : Int)] w fun e w' => e = .returned (.int .i64 ((putN x).length : Nat)) ∧ Below w.heap.size w w' := by
  have hle := putN_le x hx
  obtain ⟨P, hP⟩ : ∃ P, P = (putN x).length := ⟨_, rfl⟩
  rw [← hP] at hle ⊢
  have hst := Lib.hid (show (putN x).length + 1 = P + 1 by rw [hP])
  clear hP
  go_enter Tryz.func73, Tryz.ntmps73
  go_wp2
  go_loopw [0, 3] (fun t o wr => ∃ y s : Nat, t = .int .u64 (y : Int) ∧ y < 18446744073709551616 ∧ o = .int .i64 (s : Int) ∧ Hid ((putN y).length + s = P + 1) ∧ s ≤ 11 ∧ w = wr) (fun t _ _ => (intOf t).toNat)
  case atStart => exact ⟨x, 1, rfl, hx, rfl, hst, by decide, rfl⟩
  case round =>
    obtain ⟨y, s, rfl, hy, rfl, hys, hs, rfl⟩ := hrel
    by_cases h0 : y < 128
    · have hlt : decide ((128 : Int) ≤ y) = false := by simp; omega
      have hp1 := putN_low y h0
      have := hys.out
      rw [hp1] at this
      obtain rfl : s = P := by simp at this; omega
      go_wp2
      go_ret
      exact ⟨rfl, Below.refl _ _⟩
    · have hlt : decide ((128 : Int) ≤ y) = true := by simp; omega
      obtain ⟨q, hq⟩ : ∃ q, q = y / 128 := ⟨_, rfl⟩
      have s2 : Int.tdiv (y : Int) 128 = (q : Int) := by rw [Int.tdiv_eq_ediv_of_nonneg (by omega)]; omega
      have s4 : IntKind.u64.wrap (q : Int) = (q : Int) := by simp [IntKind.wrap, IntKind.bits, IntKind.signed]; omega
      have hst := putN_step y h0
      rw [← hq] at hst
      have hn := Lib.hid (show (putN q).length + (s + 1) = P + 1 by have := hys.out; omega)
      have hqy : q < y := by omega
      have hq64' : q < 18446744073709551616 := by omega
      have hp := putN_le q hq64'
      have hs' : s + 1 ≤ 11 := by
        have := hn.out
        have h1 : 1 ≤ (putN q).length := by unfold putN; simp
        omega
      clear hq hst hys hp
      go_wp2
      exact ⟨⟨q, s + 1, rfl, hq64', by go_num, hn, hs', trivial⟩, by simp [intOf]; omega⟩
set_option maxHeartbeats 2000000 in
set_option maxRecDepth 100000 in
theorem prefix_any (s p : List UInt8) (_hs : s.length ≤ 1099511627776) (w : World) :
    Calls Tryz.prog 53 #[.string ⟨s.toArray⟩, .string ⟨p.toArray⟩] w fun e w' => e = .returned (.tuple #[.string ⟨(if s.take p.length = p then s.drop p.length else s).toArray⟩, .bool (decide (s.take p.length = p))]) ∧ w' = w := by
  have z1 : (⟨s.toArray⟩ : ByteArray).size = s.length := rfl
  have z2 : (⟨p.toArray⟩ : ByteArray).size = p.length := rfl
  by_cases hl : p.length ≤ s.length
  · have hl' : decide ((p.length : Int) ≤ s.length) = true := by simp; omega
    have h1 := sub_low s p.length hl
    have h2 := sub_high s p.length hl
    by_cases he : s.take p.length = p
    · rw [if_pos he, decide_eq_true he]
      go_enter Tryz.func53, Tryz.ntmps53
      go_wp2
      exact bodyPost_ret (results_tmp2 rfl _ _ _) rfl ⟨rfl, rfl⟩
    · rw [if_neg he, decide_eq_false he]
      have he1 : (s.take p.length == p) = false := beq_eq_false_iff_ne.2 he
      go_enter Tryz.func53, Tryz.ntmps53
      go_wp2
      exact bodyPost_ret (results_tmp2 rfl _ _ _) rfl ⟨rfl, rfl⟩
  · have hl' : decide ((p.length : Int) ≤ s.length) = false := by simp; omega
    have he : ¬ s.take p.length = p := fun h => by
      have := congrArg List.length h
      rw [List.length_take] at this; omega
    rw [if_neg he, decide_eq_false he]
    clear he
    go_enter Tryz.func53, Tryz.ntmps53
    go_wp2
    exact bodyPost_ret (results_tmp2 rfl _ _ _) rfl ⟨rfl, rfl⟩
theorem hasPrefix_any (s p : List UInt8) (_hs : s.length ≤ 1099511627776) (w : World) :
    Calls Tryz.prog 123 #[.string ⟨s.toArray⟩, .string ⟨p.toArray⟩] w fun e w' => e = .returned (.bool (decide (s.take p.length = p))) ∧ w' = w := by
  have z1 : (⟨s.toArray⟩ : ByteArray).size = s.length := rfl
  have z2 : (⟨p.toArray⟩ : ByteArray).size = p.length := rfl
  by_cases hl : p.length ≤ s.length
  · have hl' : decide ((p.length : Int) ≤ s.length) = true := by simp; omega
    have h1 := sub_low s p.length hl
    by_cases he : s.take p.length = p
    · rw [decide_eq_true he]
      go_enter Tryz.func123, Tryz.ntmps123
      go_wp2
      go_ret
      exact ⟨rfl, rfl⟩
    · rw [decide_eq_false he]
      have he1 : (s.take p.length == p) = false := beq_eq_false_iff_ne.2 he
      go_enter Tryz.func123, Tryz.ntmps123
      go_wp2
      go_ret
      exact ⟨rfl, rfl⟩
  · have hl' : decide ((p.length : Int) ≤ s.length) = false := by simp; omega
    have he : ¬ s.take p.length = p := fun h => by
      have := congrArg List.length h
      rw [List.length_take] at this; omega
    rw [decide_eq_false he]
    clear he
    go_enter Tryz.func123, Tryz.ntmps123
    go_wp2
    go_ret
    exact ⟨rfl, rfl⟩
end Go.Proofs.YtmfbkelhegdmpaaGreatDoor
/- The walk of look, chapter 13 (snap): what a slot has. -/
namespace Go.Proofs.YtmfbkelhegdmpaaGreatDoor
open Go.RowKit Disk11 Journal12 Sum2

/-- What a slot has, as the program keeps it. -/
def foundC (r : Nat × List UInt8) : Array Value := if r.1 = 0 then #[.int .u64 0, .string ⟨#[]⟩, .bool false] else #[.int .u64 (r.1 : Int), .string ⟨r.2.toArray⟩, .bool true]
theorem sub_mid_u (y : List UInt8) (i j : Nat) (h1 : i ≤ j) (h2 : j ≤ y.length) (W : World) : (Instr.slice 9 (.string ⟨y.toArray⟩) (some (.int .i64 (i : Int))) (some (.int .u64 (j : Int))) none).run Tryz.prog W = .ok (.string ⟨((y.drop i).take (j - i)).toArray⟩) W := by
  have hs : (⟨y.toArray⟩ : ByteArray).size = y.length := rfl
  rw [run_slice_string W _ _ _ _ _ _ Tryz.underlying9 (by omega) (by omega) (by rw [hs]; omega), ByteArray.extract_mk, Int.toNat_natCast, Int.toNat_natCast]
theorem sub_low_u (y : List UInt8) (j : Nat) (h2 : j ≤ y.length) (W : World) : (Instr.slice 9 (.string ⟨y.toArray⟩) none (some (.int .u64 (j : Int))) none).run Tryz.prog W = .ok (.string ⟨(y.take j).toArray⟩) W := by
  have hs : (⟨y.toArray⟩ : ByteArray).size = y.length := rfl
  rw [run_slice_string_to_if W _ _ _ _ Tryz.underlying9, if_pos (by rw [hs]; omega), ByteArray.extract_mk, Int.toNat_natCast]; simp
theorem look_bad {S : List UInt8} {i g n : Nat} (hg : g = numS ((S.drop 1).take 8)) (hn : n = numS ((S.drop 9).take 4)) (h : g < 1 ∨ 1099511627776 < g ∨ g % 2 ≠ i ∨ S.length < n + 17) : lookS S i = (0, []) := by
  unfold lookS
  rw [← hg, ← hn]
  by_cases h0 : S[0]? ≠ some 183
  · rw [if_pos h0]
  · rw [if_neg h0, if_pos h]
theorem look_diff {S : List UInt8} {i g n : Nat} (hg : g = numS ((S.drop 1).take 8)) (hn : n = numS ((S.drop 9).take 4)) (h : formS g ((S.drop 13).take n) ≠ (S.drop 1).take (16 + n)) : lookS S i = (0, []) := by
  unfold lookS
  rw [← hg, ← hn]
  by_cases h0 : S[0]? ≠ some 183
  · rw [if_pos h0]
  · rw [if_neg h0]
    split
    · rfl
    · first | rfl | rw [if_pos h]
theorem look_yes {S : List UInt8} {i g n : Nat} (hg : g = numS ((S.drop 1).take 8)) (hn : n = numS ((S.drop 9).take 4)) (h0 : S[0]? = some 183) (h1 : 1 ≤ g) (h2 : g ≤ 1099511627776) (h3 : g % 2 = i) (h4 : n + 17 ≤ S.length) (h : formS g ((S.drop 13).take n) = (S.drop 1).take (16 + n)) : lookS S i = (g, (S.drop 13).take n) := by
  unfold lookS
  rw [← hg, ← hn, if_neg (by simp [h0]), if_neg (by omega), if_neg (by simp [h])]
theorem take_mark (S : List UInt8) : S.take 1 = [183] ↔ S[0]? = some 183 := by
  cases S with
  | nil => simp
  | cons a l => simp
theorem results_cellG {fn : Func} {P : Program} {p : Tmp} {ty : TypeId} (h : fn.results = #[.cell p ty]) (tmps : Array Value) (w : World) (g : Nat) (t : TypeId) (cs : Array Value) (fr : Nat × Nat) (d : TypeDesc)
    (hp : tmps.getD p undef = .pointer (some ⟨g, 0, none⟩)) (hg : w.heap[g]? = some (.cells cs t fr))
    (hu : P.underlying ty = some d) (hd : (match d with | .struct _ | .array _ _ => true | _ => false) = true) (hi : (P.info? ty).map (·.size) = some cs.size) :
    (results fn tmps).run P w = .ok (.agg cs) w := results_cellS h tmps w g t cs fr d hp hg hu hd hi
set_option maxHeartbeats 4000000 in
set_option maxRecDepth 100000 in
theorem look_any (S : List UInt8) (i : Nat) (_hi : i < 2) (h17 : 17 ≤ S.length) (hle : S.length ≤ 65536) (w : World) (ht : Tab w) :
    Calls Tryz.prog 91 #[.string ⟨S.toArray⟩, .int .i64 (i : Int)] w fun e w' => e = .returned (.agg (foundC (lookS S i))) ∧ Below w.heap.size w w' := by
  have HP := Lib.hid (fun W => hasPrefix_any S [183] (by omega) W)
  have k1 := World.alloc_heap_new w (.cells #[.int .u64 0, .string ⟨#[]⟩, .bool false] 82)
  have b1 := Go.Joins.below_alloc1 w (.cells #[.int .u64 0, .string ⟨#[]⟩, .bool false] 82)
  have z1 : (⟨S.toArray⟩ : ByteArray).size = S.length := rfl
  by_cases h0 : S[0]? = some 183
  · have hd : decide (S.take ([183] : List UInt8).length = [183]) = true := by simp; exact (take_mark S).2 h0
    rw [hd] at HP
    obtain ⟨R, hR⟩ : ∃ R, R = lookS S i := ⟨_, rfl⟩
    rw [← hR]
    have hR' := Lib.hid hR
    clear hR
    obtain ⟨g, hg⟩ : ∃ g, g = numS ((S.drop 1).take 8) := ⟨_, rfl⟩
    obtain ⟨n, hn⟩ : ∃ n, n = numS ((S.drop 9).take 4) := ⟨_, rfl⟩
    obtain ⟨T, hT⟩ : ∃ T, T = S.drop 1 := ⟨_, rfl⟩
    have hTl : T.length = S.length - 1 := by rw [hT, List.length_drop]
    have hS9 : S.drop 9 = T.drop 8 := by rw [hT, List.drop_drop]
    have hS13 : S.drop 13 = T.drop 12 := by rw [hT, List.drop_drop]
    have w1 := Lib.hid (fun W => worth_any (T.take 8) (by rw [List.length_take]; omega) W)
    have w2 := Lib.hid (fun W => worth_any ((T.drop 8).take 4) (by rw [List.length_take]; omega) W)
    rw [← hT] at hg
    rw [hS9] at hn
    rw [← hg] at w1
    rw [← hn] at w2
    have hs1 : ∀ W, (Instr.slice 9 (.string ⟨S.toArray⟩) (some (.int .i64 1)) none none).run Tryz.prog W = .ok (.string ⟨T.toArray⟩) W := fun W => by rw [hT]; exact sub_high S 1 (by omega) W
    have hs2 : ∀ W, (Instr.slice 9 (.string ⟨T.toArray⟩) none (some (.int .i64 8)) none).run Tryz.prog W = .ok (.string ⟨(T.take 8).toArray⟩) W := fun W => sub_low T 8 (by omega) W
    have hs3 : ∀ W, (Instr.slice 9 (.string ⟨T.toArray⟩) (some (.int .i64 8)) (some (.int .i64 12)) none).run Tryz.prog W = .ok (.string ⟨((T.drop 8).take 4).toArray⟩) W := fun W => sub_mid T 8 12 (by decide) (by omega) W
    obtain ⟨A8, hA8⟩ : ∃ A, A = T.take 8 := ⟨_, rfl⟩
    obtain ⟨A4, hA4⟩ : ∃ A, A = (T.drop 8).take 4 := ⟨_, rfl⟩
    rw [← hA8] at hs2 w1
    rw [← hA4] at hs3 w2
    have hg' := Lib.hid (show g = numS ((S.drop 1).take 8) by rw [← hT]; exact hg)
    have hn' := Lib.hid (show n = numS ((S.drop 9).take 4) by rw [hS9]; exact hn)
    have z2 : (⟨T.toArray⟩ : ByteArray).size = T.length := rfl
    obtain ⟨M, hM⟩ : ∃ M, M = S.length - 17 := ⟨_, rfl⟩
    have hM1 : (T.length : Int) - 16 = (M : Int) := by omega
    have hM2 : M ≤ 65519 := by omega
    have hM3 : IntKind.u64.wrap (M : Int) = (M : Int) := by simp [IntKind.wrap, IntKind.bits, IntKind.signed]; omega
    have hTl3 : T.length ≤ 65535 := by omega
    have f0 := frozen3 k1 0
    have f1 := frozen3 k1 1
    have f2 := frozen3 k1 2
    have c0 := cell3_0 k1
    have c1 := cell3_1 k1
    have c2 := cell3_2 k1
    have hB := Lib.hid b1
    have k1' := Lib.hid k1
    have hTt := Lib.hid hT
    have hMM := Lib.hid hM
    have h00 := Lib.hid h0
    have hTb := Lib.hid ht
    have hS13' := Lib.hid hS13
    have hTl' := Lib.hid hTl
    clear hA8 hA4 hd k1 b1 hg hn hT hM hS9 hS13 h0 ht hTl
    go_enter Tryz.func91, Tryz.ntmps91
    go_wp2_with fail
    refine (HP.out _).mono ?_
    rintro e w2 ⟨rfl, rfl⟩
    go_wp2_with fail
    go_region_held3 (fun _ => True) (exact trivial)
      (first
      | (go_at_call 124; have m2 := m1.out; refine (w2.out _).mono ?_; rintro e u2 ⟨rfl, rfl⟩)
      | (go_at_call 124; refine (w1.out _).mono ?_; rintro e u1 ⟨rfl, rfl⟩; have m1 := Lib.hid True.intro))
    by_cases d1 : M < n
    · have d1' : decide ((M : Int) < (n : Int)) = true := by simp; omega
      have d1n : decide (M < n) = true := by simp; omega
      have hr := look_bad (i := i) hg'.out hn'.out (by have := hMM.out; omega)
      have hr' := Lib.hid (hR'.out.trans hr)
      clear hr
      go_wp2
      exact bodyPost_ret (results_cellG rfl _ _ w.heap.size _ _ _ _ rfl (show (w.alloc (.cells #[.int .u64 0, .string ⟨#[]⟩, .bool false] 82)).drew.heap[w.heap.size]? = _ from k1'.out) Tryz.underlying82 rfl (by kernel_rfl)) rfl ⟨by rw [hr'.out]; rfl, hB.out.drew⟩
    have d1' : decide ((M : Int) < (n : Int)) = false := by simp; omega
    have d1n : decide (M < n) = false := by simp; omega
    by_cases d2 : g < 1
    · have d2' : decide ((g : Int) < 1) = true := by simp; omega
      have hr := look_bad (i := i) hg'.out hn'.out (by have := hMM.out; omega)
      have hr' := Lib.hid (hR'.out.trans hr)
      clear hr
      go_wp2
      exact bodyPost_ret (results_cellG rfl _ _ w.heap.size _ _ _ _ rfl (show (w.alloc (.cells #[.int .u64 0, .string ⟨#[]⟩, .bool false] 82)).drew.heap[w.heap.size]? = _ from k1'.out) Tryz.underlying82 rfl (by kernel_rfl)) rfl ⟨by rw [hr'.out]; rfl, hB.out.drew⟩
    have d2' : decide ((g : Int) < 1) = false := by simp; omega
    by_cases d3 : 1099511627776 < g
    · have d3' : decide (1099511627776 < (g : Int)) = true := by simp; omega
      have hr := look_bad (i := i) hg'.out hn'.out (by have := hMM.out; omega)
      have hr' := Lib.hid (hR'.out.trans hr)
      clear hr
      go_wp2
      exact bodyPost_ret (results_cellG rfl _ _ w.heap.size _ _ _ _ rfl (show (w.alloc (.cells #[.int .u64 0, .string ⟨#[]⟩, .bool false] 82)).drew.heap[w.heap.size]? = _ from k1'.out) Tryz.underlying82 rfl (by kernel_rfl)) rfl ⟨by rw [hr'.out]; rfl, hB.out.drew⟩
    have d3' : decide (1099511627776 < (g : Int)) = false := by simp; omega
    obtain ⟨r, hr⟩ : ∃ r, r = g % 2 := ⟨_, rfl⟩
    have ht2 : Int.tmod (g : Int) 2 = (r : Int) := by rw [Int.tmod_eq_emod_of_nonneg (by omega)]; omega
    have hr1 : r ≤ 1 := by omega
    by_cases d4 : r = i
    · have d4' : ((r : Int) != (i : Int)) = false := by simp; omega
      have d4n : ((g : Int) % 2 != (i : Int)) = false := by simp; omega
      have hn5 : n ≤ 65519 := by omega
      have hw16 : IntKind.u64.wrap (16 + (n : Int)) = 16 + (n : Int) := by simp [IntKind.wrap, IntKind.bits, IntKind.signed]; omega
      have h1 : ∀ W, (Instr.slice 9 (.string ⟨T.toArray⟩) (some (.int .i64 12)) (some (.int .u64 (12 + (n : Int)))) none).run Tryz.prog W = .ok (.string ⟨((T.drop 12).take n).toArray⟩) W := fun W => by
        have := sub_mid_u T 12 (12 + n) (by omega) (by have := hTl'.out; have := hMM.out; omega) W
        rw [show ((12 + n : Nat) : Int) = 12 + (n : Int) by omega, Nat.add_sub_cancel_left] at this
        exact this
      have h2 : ∀ W, (Instr.slice 9 (.string ⟨T.toArray⟩) none (some (.int .u64 (16 + (n : Int)))) none).run Tryz.prog W = .ok (.string ⟨(T.take (16 + n)).toArray⟩) W := fun W => by
        have := sub_low_u T (16 + n) (by have := hTl'.out; have := hMM.out; omega) W
        rw [show ((16 + n : Nat) : Int) = 16 + (n : Int) by omega] at this
        exact this
      obtain ⟨X, hX⟩ : ∃ X, X = (T.drop 12).take n := ⟨_, rfl⟩
      obtain ⟨Y, hY⟩ : ∃ Y, Y = T.take (16 + n) := ⟨_, rfl⟩
      have hXl : X.length ≤ 1000000 := by rw [hX, List.length_take]; omega
      have HFm := Lib.hid (fun W t => sform_any g X (by omega) hXl W t)
      obtain ⟨Fm, hFm⟩ : ∃ F, F = formS g X := ⟨_, rfl⟩
      rw [← hX] at h1
      rw [← hY] at h2
      rw [← hFm] at HFm
      have e13 : (S.drop 13).take n = X := by rw [hS13'.out, hX]
      have e1 : (S.drop 1).take (16 + n) = Y := by rw [← hTt.out, hY]
      have q1 := Lib.hid (show 1 ≤ g by omega)
      have q2 := Lib.hid (show g ≤ 1099511627776 by omega)
      have q3 := Lib.hid (show g % 2 = i by omega)
      have q4 := Lib.hid (show n + 17 ≤ S.length by have := hMM.out; omega)
      by_cases he : Fm = Y
      · have he1 : (Fm == Y) = true := by rw [beq_iff_eq]; exact he
        have hr := look_yes (i := i) hg'.out hn'.out h00.out q1.out q2.out q3.out q4.out (by rw [e13, e1, ← hFm]; exact he)
        rw [e13] at hr
        have hr' := Lib.hid (hR'.out.trans hr)
        clear hr hX hY hXl hFm e13 e1 he d1 d2 d3 d4
        go_upto_region 8 with (fail)
        go_region_held3 (fun _ => True) (exact trivial)
          (first
          | (go_at_call 41; refine (HFm.out _ (hTb.out.below hB.out.drew.drew)).mono ?_; rintro e u ⟨rfl, y⟩
             have K9 := Lib.hid (heap_below (show (w.alloc (.cells #[.int .u64 0, .string ⟨#[]⟩, .bool false] 82)).drew.drew.heap[w.heap.size]? = _ from k1'.out) y)
             have U9 := Lib.hid (hB.out.drew.drew.trans ((show Below (w.alloc (.cells #[.int .u64 0, .string ⟨#[]⟩, .bool false] 82)).drew.drew.heap.size _ u from y).mono hB.out.size))))
        have k9 := K9.out
        have g0 := frozen3 k9 0
        have g1 := frozen3 k9 1
        have g2 := frozen3 k9 2
        have i0 := cell3_0 k9
        have i1 := cell3_1 k9
        have i2 := cell3_2 k9
        have k5 := set_three (x' := .int .u64 (g : Int)) (y' := .string ⟨X.toArray⟩) (z' := .bool true) k9
        go_wp2
        exact bodyPost_ret (results_cellG rfl _ _ w.heap.size _ _ _ _ rfl k5 Tryz.underlying82 rfl (by kernel_rfl)) rfl ⟨by rw [hr'.out]; unfold foundC; rw [if_neg (by have := q1.out; show ¬ g = 0; omega)], below_set (below_set (below_set U9.out (Nat.le_refl _)) (Nat.le_refl _)) (Nat.le_refl _)⟩
      · have he1 : (Fm == Y) = false := beq_eq_false_iff_ne.2 he
        have hr := look_diff (i := i) hg'.out hn'.out (by rw [e13, e1, ← hFm]; exact he)
        have hr' := Lib.hid (hR'.out.trans hr)
        clear hr hX hY hXl hFm e13 e1 he d1 d2 d3 d4
        go_upto_region 8 with (fail)
        go_region_held3 (fun _ => True) (exact trivial)
          (first
          | (go_at_call 41; refine (HFm.out _ (hTb.out.below hB.out.drew.drew)).mono ?_; rintro e u ⟨rfl, y⟩
             have K9 := Lib.hid (heap_below (show (w.alloc (.cells #[.int .u64 0, .string ⟨#[]⟩, .bool false] 82)).drew.drew.heap[w.heap.size]? = _ from k1'.out) y)
             have U9 := Lib.hid (hB.out.drew.drew.trans ((show Below (w.alloc (.cells #[.int .u64 0, .string ⟨#[]⟩, .bool false] 82)).drew.drew.heap.size _ u from y).mono hB.out.size))))
        have k9 := K9.out
        have g0 := frozen3 k9 0
        have g1 := frozen3 k9 1
        have g2 := frozen3 k9 2
        have i0 := cell3_0 k9
        have i1 := cell3_1 k9
        have i2 := cell3_2 k9
        have k5 := set_three (x' := .int .u64 0) (y' := .string ⟨#[]⟩) (z' := .bool false) k9
        go_wp2
        exact bodyPost_ret (results_cellG rfl _ _ w.heap.size _ _ _ _ rfl k5 Tryz.underlying82 rfl (by kernel_rfl)) rfl ⟨by rw [hr'.out]; rfl, below_set (below_set (below_set U9.out (Nat.le_refl _)) (Nat.le_refl _)) (Nat.le_refl _)⟩
    · have d4' : ((r : Int) != (i : Int)) = true := by simp; omega
      have d4n : ((g : Int) % 2 != (i : Int)) = true := by simp; omega
      have hr2 := look_bad (i := i) hg'.out hn'.out (by omega)
      have hr' := Lib.hid (hR'.out.trans hr2)
      clear hr2
      go_wp2
      exact bodyPost_ret (results_cellG rfl _ _ w.heap.size _ _ _ _ rfl (show (w.alloc (.cells #[.int .u64 0, .string ⟨#[]⟩, .bool false] 82)).drew.heap[w.heap.size]? = _ from k1'.out) Tryz.underlying82 rfl (by kernel_rfl)) rfl ⟨by rw [hr'.out]; rfl, hB.out.drew⟩
  · have hd : decide (S.take ([183] : List UInt8).length = [183]) = false := by simp; exact fun h => h0 ((take_mark S).1 h)
    rw [hd] at HP
    rw [look_none S i h0]
    have f0 := frozen3 k1 0
    have f1 := frozen3 k1 1
    have f2 := frozen3 k1 2
    have c0 := cell3_0 k1
    have c1 := cell3_1 k1
    have c2 := cell3_2 k1
    have hB := Lib.hid b1
    have k1' := Lib.hid k1
    clear h0 hd k1 b1
    go_enter Tryz.func91, Tryz.ntmps91
    go_wp2_with fail
    refine (HP.out _).mono ?_
    rintro e w2 ⟨rfl, rfl⟩
    go_wp2
    exact bodyPost_ret (results_cellG rfl _ _ w.heap.size _ _ _ _ rfl k1'.out Tryz.underlying82 rfl (by kernel_rfl)) rfl ⟨rfl, hB.out⟩
end Go.Proofs.YtmfbkelhegdmpaaGreatDoor
