/- The walks of the program's own functions of chapter 2 (sum): texts of sums, sealed texts. -/
import Derived.Test.YtkgenpoenpkpeaaDoorSumA
import Derived.Test.YtkgenpoenpkpeaaDoorKitB
import Derived.WalkSpells
import Derived.Deep.RegionHeld3
import Derived.Deep.DeepMust
namespace Go.Proofs.YtkgenpoenpkpeaaDoor
open Go.RowKit Sum2

theorem Tab.below {w w' : World} (h : Tab w) (hb : Below w.heap.size w w') : Tab w' := by
  intro k hk
  have h1 := h k hk
  have hlt : 0 < w.heap.size := by
    rcases Nat.lt_or_ge 0 w.heap.size with h | h
    · exact h
    · rw [World.cell?, Array.getElem?_eq_none h] at h1; cases h1
  rw [hb.cell hlt]; exact h1



theorem ofNat_mod (a b : Nat) (h : a % 256 = b % 256) : UInt8.ofNat a = UInt8.ofNat b := by
  apply UInt8.toNat_inj.1; rw [UInt8.toNat_ofNat', UInt8.toNat_ofNat']; exact h
theorem text32_0 {T : List UInt8} {x : Nat} (h : T = text32 x) {n : Int} (hn : n.toNat % 256 = x / 16777216 % 256) : T.take 0 ++ [UInt8.ofNat n.toNat] = T.take 1 := by subst h; rw [ofNat_mod _ _ hn]; rfl
theorem text32_1 {T : List UInt8} {x : Nat} (h : T = text32 x) {n : Int} (hn : n.toNat % 256 = x / 65536 % 256) : T.take 1 ++ [UInt8.ofNat n.toNat] = T.take 2 := by subst h; rw [ofNat_mod _ _ hn]; rfl
theorem text32_2 {T : List UInt8} {x : Nat} (h : T = text32 x) {n : Int} (hn : n.toNat % 256 = x / 256 % 256) : T.take 2 ++ [UInt8.ofNat n.toNat] = T.take 3 := by subst h; rw [ofNat_mod _ _ hn]; rfl
theorem text32_3 {T : List UInt8} {x : Nat} (h : T = text32 x) {n : Int} (hn : n.toNat % 256 = x % 256) : T.take 3 ++ [UInt8.ofNat n.toNat] = T.take 4 := by subst h; rw [ofNat_mod _ _ hn]; rfl
theorem text16_0 {T : List UInt8} {x : Nat} (h : T = text16 x) {n : Int} (hn : n.toNat % 256 = x / 256 % 256) : T.take 0 ++ [UInt8.ofNat n.toNat] = T.take 1 := by subst h; rw [ofNat_mod _ _ hn]; rfl
theorem text16_1 {T : List UInt8} {x : Nat} (h : T = text16 x) {n : Int} (hn : n.toNat % 256 = x % 256) : T.take 1 ++ [UInt8.ofNat n.toNat] = T.take 2 := by subst h; rw [ofNat_mod _ _ hn]; rfl

set_option maxHeartbeats 400000 in
theorem text32_any (x : Nat) (hx : x < 4294967296) (w : World) :
    Calls Tryd.prog 39 #[.int .u32 x] w fun e w' => e = .returned (.string ⟨(text32 x).toArray⟩) ∧ Below w.heap.size w w' := by
  obtain ⟨T, hT⟩ : ∃ T, T = text32 x := ⟨_, rfl⟩
  have hl : T.length = 4 := by rw [hT]; rfl
  rw [← hT]
  have HT := Lib.hid hT; clear hT
  go_enter Tryd.func39, Tryd.ntmps39
  go_wp2_with (go_at_call 44; refine (size32_any _ _).mono ?_; rintro e w' ⟨rfl, rfl⟩)
  go_loopw [3, 4] (fun v i wr => ∃ k : Nat, k ≤ 4 ∧ i = .int .i64 (3 - (k : Int)) ∧ Buf wr w.heap.size v (T.take k) ∧ Below w.heap.size w wr) (fun _ i _ => (1 + intOf i).toNat)
  case atStart => exact ⟨0, by omega, rfl, Buf.nil _ _, Below.refl _ _⟩
  case round =>
    obtain ⟨k, hk, rfl, hown, hb⟩ := hrel
    have hsz := hb.size
    have hk5 : k = 0 ∨ k = 1 ∨ k = 2 ∨ k = 3 ∨ k = 4 := by omega
    rcases hk5 with rfl | rfl | rfl | rfl | rfl
    · go_wp2_with (at_builtin; refine app_u8 rfl rfl w.heap.size rfl hown rfl (by omega) (by omega) (by rw [List.length_take]; omega) hsz ?_; intro g cap w1 hown1 hb1 hg1)
      go_roundw
      case rel => exact ⟨1, by omega, rfl, hown1.congr (by simp) (text32_0 HT.out (by omega)), hb.trans hb1⟩
      case measure => simp [intOf]
    · go_wp2_with (at_builtin; refine app_u8 rfl rfl w.heap.size rfl hown rfl (by omega) (by omega) (by rw [List.length_take]; omega) hsz ?_; intro g cap w1 hown1 hb1 hg1)
      go_roundw
      case rel => exact ⟨2, by omega, rfl, hown1.congr (by simp [hl]) (text32_1 HT.out (by omega)), hb.trans hb1⟩
      case measure => simp [intOf]
    · go_wp2_with (at_builtin; refine app_u8 rfl rfl w.heap.size rfl hown rfl (by omega) (by omega) (by rw [List.length_take]; omega) hsz ?_; intro g cap w1 hown1 hb1 hg1)
      go_roundw
      case rel => exact ⟨3, by omega, rfl, hown1.congr (by simp [hl]) (text32_2 HT.out (by omega)), hb.trans hb1⟩
      case measure => simp [intOf]
    · go_wp2_with (at_builtin; refine app_u8 rfl rfl w.heap.size rfl hown rfl (by omega) (by omega) (by rw [List.length_take]; omega) hsz ?_; intro g cap w1 hown1 hb1 hg1)
      go_roundw
      case rel => exact ⟨4, by omega, rfl, hown1.congr (by simp [hl]) (text32_3 HT.out (by omega)), hb.trans hb1⟩
      case measure => simp [intOf]
    · have hstr := buf_string hown
      go_wp2
      go_ret
      refine ⟨?_, hb⟩
      rw [List.take_of_length_le (by omega)]; rfl
set_option maxHeartbeats 400000 in
theorem text16_any (x : Nat) (hx : x < 65536) (w : World) :
    Calls Tryd.prog 41 #[.int .u16 x] w fun e w' => e = .returned (.string ⟨(text16 x).toArray⟩) ∧ Below w.heap.size w w' := by
  obtain ⟨T, hT⟩ : ∃ T, T = text16 x := ⟨_, rfl⟩
  have hl : T.length = 2 := by rw [hT]; rfl
  rw [← hT]
  have HT := Lib.hid hT; clear hT
  go_enter Tryd.func41, Tryd.ntmps41
  go_wp2_with (go_at_call 45; refine (size16_any _ _).mono ?_; rintro e w' ⟨rfl, rfl⟩)
  go_loopw [3, 4] (fun v i wr => ∃ k : Nat, k ≤ 2 ∧ i = .int .i64 (1 - (k : Int)) ∧ Buf wr w.heap.size v (T.take k) ∧ Below w.heap.size w wr) (fun _ i _ => (1 + intOf i).toNat)
  case atStart => exact ⟨0, by omega, rfl, Buf.nil _ _, Below.refl _ _⟩
  case round =>
    obtain ⟨k, hk, rfl, hown, hb⟩ := hrel
    have hsz := hb.size
    have hk5 : k = 0 ∨ k = 1 ∨ k = 2 := by omega
    rcases hk5 with rfl | rfl | rfl
    · go_wp2_with (at_builtin; refine app_u8 rfl rfl w.heap.size rfl hown rfl (by omega) (by omega) (by rw [List.length_take]; omega) hsz ?_; intro g cap w1 hown1 hb1 hg1)
      go_roundw
      case rel => exact ⟨1, by omega, rfl, hown1.congr (by simp) (text16_0 HT.out (by omega)), hb.trans hb1⟩
      case measure => simp [intOf]
    · go_wp2_with (at_builtin; refine app_u8 rfl rfl w.heap.size rfl hown rfl (by omega) (by omega) (by rw [List.length_take]; omega) hsz ?_; intro g cap w1 hown1 hb1 hg1)
      go_roundw
      case rel => exact ⟨2, by omega, rfl, hown1.congr (by simp [hl]) (text16_1 HT.out (by omega)), hb.trans hb1⟩
      case measure => simp [intOf]
    · have hstr := buf_string hown
      go_wp2
      go_ret
      refine ⟨?_, hb⟩
      rw [List.take_of_length_le (by omega)]; rfl

theorem seal_join (s : ByteArray) (T : List UInt8) : s ++ (⟨T.toArray⟩ : ByteArray) = ⟨(s.data.toList ++ T).toArray⟩ := by
  apply ByteArray.ext; simp [ByteArray.data_append]

theorem seal32_any (s : ByteArray) (hs : s.size ≤ 140737488351232) (w : World) (ht : Tab w) :
    Calls Tryd.prog 20 #[.string s] w fun e w' => e = .returned (.string ⟨(seal32 s.data.toList).toArray⟩) ∧ Below w.heap.size w w' := by
  have HT := Lib.hid ht; clear ht
  have hc := crc32_lt s.data.toList
  unfold seal32
  rw [← seal_join]
  obtain ⟨c, hc'⟩ : ∃ c, c = crc32 s.data.toList := ⟨_, rfl⟩
  rw [← hc'] at hc ⊢
  obtain ⟨t, ht⟩ : ∃ t : ByteArray, t = ⟨(text32 c).toArray⟩ := ⟨_, rfl⟩
  have hsz : t.size = 4 := by rw [ht]; rfl
  rw [← ht]
  have HC := Lib.hid hc'; clear hc'
  have HTT := Lib.hid ht; clear ht
  have hadd := run_string_add_sum (P := Tryd.prog) (a := s) (b := t) (h := by omega)
  go_enter Tryd.func20, Tryd.ntmps20
  go_wp2_with fail
  refine (crc32_any s (by omega) _ HT.out).mono ?_
  rw [← HC.out]
  rintro e w' ⟨rfl, rfl⟩
  go_wp2_with fail
  refine (text32_any c hc _).mono ?_
  rw [← HTT.out]
  rintro e w' ⟨rfl, hb⟩
  go_wp2
  go_ret
  exact ⟨rfl, hb⟩

theorem extract_le (s : ByteArray) (a b : Nat) : (s.extract a b).size ≤ s.size := by simp; omega
theorem bytes_toList (s : ByteArray) : s.toList = s.data.toList := ByteArray.toList_eq s
theorem extract_take (s : ByteArray) (n : Nat) : s.extract 0 n = ⟨(s.data.toList.take n).toArray⟩ := by
  apply ByteArray.ext; rw [ByteArray.data_extract]; apply Array.toList_inj.1; simp
theorem extract_drop (s : ByteArray) (n : Nat) : (s.extract n s.size).toList = s.data.toList.drop n := by
  rw [bytes_toList, ByteArray.data_extract]; simp
  exact List.take_of_length_le (by simp)
theorem ret_open {a b : ByteArray} {m n : Int} (h : a = b) (g : m = n) : Ending.returned (.tuple #[.string a, .int .i64 m]) = .returned (.tuple #[.string b, .int .i64 n]) := by rw [h, g]
theorem openL_short {k : Nat} {T : List UInt8 → List UInt8} {l : List UInt8} (h : l.length < k) : openL k T l = ([], 11) := by unfold openL; rw [if_pos h]
theorem openL_sum {k n : Nat} {T : List UInt8 → List UInt8} {l : List UInt8} (h : l.length = n + k) (hq : (T (l.take n) == l.drop n) = false) : openL k T l = ([], 10) := by
  unfold openL; rw [if_neg (by omega), show l.length - k = n by omega, if_neg (by simpa using hq)]
theorem openL_ok {k n : Nat} {T : List UInt8 → List UInt8} {l : List UInt8} (h : l.length = n + k) (hq : (T (l.take n) == l.drop n) = true) : openL k T l = (l.take n, 0) := by
  unfold openL; rw [if_neg (by omega), show l.length - k = n by omega, if_pos (by simpa using hq)]

theorem open32_any (s : ByteArray) (hs : s.size ≤ 140737488351232) (w : World) (ht : Tab w) :
    Calls Tryd.prog 35 #[.string s, .func (.func 12) #[] #[]] w fun e w' =>
      e = .returned (.tuple #[.string ⟨(open32 s.data.toList).1.toArray⟩, .int .i64 ((open32 s.data.toList).2 : Nat)]) ∧ Below w.heap.size w w' := by
  have HT := Lib.hid ht; clear ht
  by_cases h4 : s.size < 4
  · have h4' : (s.size : Int) - 4 < 0 := by omega
    unfold open32
    rw [openL_short (by simpa using h4)]
    go_enter Tryd.func35, Tryd.ntmps35
    go_wp2_with (go_at_call 44; refine (size32_any _ _).mono ?_; rintro e w' ⟨rfl, rfl⟩)
    go_ret2
    exact ⟨rfl, Below.refl _ _⟩
  · obtain ⟨n, hn⟩ : ∃ n, s.size = n + 4 := ⟨s.size - 4, by omega⟩
    have hl : s.data.toList.length = n + 4 := by simpa using hn
    have hN : (s.size : Int) - 4 = (n : Int) := by omega
    have h1 : (n : Int) ≤ s.size := by omega
    have h2 : n ≤ s.size := by omega
    have hd := extract_drop s n
    have HL := Lib.hid hl; clear hl hn h4
    have hx := extract_le s 0 n
    cases hq : text32 (crc32 (List.take n s.data.toList)) == (s.extract n s.size).toList with
    | true =>
      rw [hd] at hq
      unfold open32
      rw [openL_ok HL.out hq, ← extract_take]
      rw [← hd] at hq
      clear hd
      go_enter Tryd.func35, Tryd.ntmps35
      go_wp2_with (go_at_call 44; refine (size32_any _ _).mono ?_; rintro e w' ⟨rfl, rfl⟩)
      go_region_held3 (fun w' => True) (trivial) (first
        | (go_at_call 12; refine (crc32_any _ ?_ _ ?_).mono ?_; (omega); (exact HT.out); rintro e w' ⟨rfl, rfl⟩)
        | (go_at_call 39; refine (text32_any _ (crc32_lt _) _).mono ?_; rintro e w' ⟨rfl, hb⟩))
      go_wp2
      go_ret2
      exact ⟨rfl, (Below.refl _ _).drew.trans hb⟩
    | false =>
      rw [hd] at hq
      unfold open32
      rw [openL_sum HL.out hq]
      rw [← hd] at hq
      clear hd
      go_enter Tryd.func35, Tryd.ntmps35
      go_wp2_with (go_at_call 44; refine (size32_any _ _).mono ?_; rintro e w' ⟨rfl, rfl⟩)
      go_region_held3 (fun w' => True) (trivial) (first
        | (go_at_call 12; refine (crc32_any _ ?_ _ ?_).mono ?_; (omega); (exact HT.out); rintro e w' ⟨rfl, rfl⟩)
        | (go_at_call 39; refine (text32_any _ (crc32_lt _) _).mono ?_; rintro e w' ⟨rfl, hb⟩))
      go_wp2
      go_ret2
      exact ⟨rfl, (Below.refl _ _).drew.trans hb⟩

theorem Open32_any (s : ByteArray) (hs : s.size ≤ 140737488351232) (w : World) (ht : Tab w) :
    Calls Tryd.prog 14 #[.string s] w fun e w' =>
      e = .returned (.tuple #[.string ⟨(open32 s.data.toList).1.toArray⟩, .int .i64 ((open32 s.data.toList).2 : Nat)]) ∧ Below w.heap.size w w' := by
  have HT := Lib.hid ht; clear ht
  obtain ⟨r, hr⟩ : ∃ r, r = open32 s.data.toList := ⟨_, rfl⟩
  have hc := open32_any s hs w HT.out
  rw [← hr] at hc ⊢
  have HC := Lib.hid hc; clear hc hr
  go_enter Tryd.func14, Tryd.ntmps14
  go_wp2_with (go_at_call 35; refine HC.out.mono ?_; rintro e w' ⟨rfl, hb⟩)
  go_ret2
  exact ⟨rfl, hb⟩

theorem seal16_any (s : ByteArray) (hs : s.size ≤ 140737488351232) (w : World) :
    Calls Tryd.prog 22 #[.string s] w fun e w' => e = .returned (.string ⟨(seal16 s.data.toList).toArray⟩) ∧ Below w.heap.size w w' := by
  have hc := crc16_lt s.data.toList
  unfold seal16
  rw [← seal_join]
  obtain ⟨c, hc'⟩ : ∃ c, c = crc16 s.data.toList := ⟨_, rfl⟩
  rw [← hc'] at hc ⊢
  obtain ⟨t, ht⟩ : ∃ t : ByteArray, t = ⟨(text16 c).toArray⟩ := ⟨_, rfl⟩
  have hsz : t.size = 2 := by rw [ht]; rfl
  rw [← ht]
  have HC := Lib.hid hc'; clear hc'
  have HTT := Lib.hid ht; clear ht
  have hadd := run_string_add_sum (P := Tryd.prog) (a := s) (b := t) (h := by omega)
  go_enter Tryd.func22, Tryd.ntmps22
  go_wp2_with fail
  refine (crc16_any s (by omega) _).mono ?_
  rw [← HC.out]
  rintro e w' ⟨rfl, rfl⟩
  go_wp2_with fail
  refine (text16_any c hc _).mono ?_
  rw [← HTT.out]
  rintro e w' ⟨rfl, hb⟩
  go_wp2
  go_ret
  exact ⟨rfl, hb⟩

theorem open16_any (s : ByteArray) (hs : s.size ≤ 140737488351232) (w : World) :
    Calls Tryd.prog 36 #[.string s, .func (.func 13) #[] #[]] w fun e w' =>
      e = .returned (.tuple #[.string ⟨(open16 s.data.toList).1.toArray⟩, .int .i64 ((open16 s.data.toList).2 : Nat)]) ∧ Below w.heap.size w w' := by
  by_cases h4 : s.size < 2
  · have h4' : (s.size : Int) - 2 < 0 := by omega
    unfold open16
    rw [openL_short (by simpa using h4)]
    go_enter Tryd.func36, Tryd.ntmps36
    go_wp2_with (go_at_call 45; refine (size16_any _ _).mono ?_; rintro e w' ⟨rfl, rfl⟩)
    go_ret2
    exact ⟨rfl, Below.refl _ _⟩
  · obtain ⟨n, hn⟩ : ∃ n, s.size = n + 2 := ⟨s.size - 2, by omega⟩
    have hl : s.data.toList.length = n + 2 := by simpa using hn
    have hN : (s.size : Int) - 2 = (n : Int) := by omega
    have h1 : (n : Int) ≤ s.size := by omega
    have h2 : n ≤ s.size := by omega
    have hd := extract_drop s n
    have HL := Lib.hid hl; clear hl hn h4
    have hx := extract_le s 0 n
    cases hq : text16 (crc16 (List.take n s.data.toList)) == (s.extract n s.size).toList with
    | true =>
      rw [hd] at hq
      unfold open16
      rw [openL_ok HL.out hq, ← extract_take]
      rw [← hd] at hq
      clear hd
      go_enter Tryd.func36, Tryd.ntmps36
      go_wp2_with (go_at_call 45; refine (size16_any _ _).mono ?_; rintro e w' ⟨rfl, rfl⟩)
      go_region_held3 (fun w' => True) (trivial) (first
        | (go_at_call 13; refine (crc16_any _ ?_ _).mono ?_; (omega); rintro e w' ⟨rfl, rfl⟩)
        | (go_at_call 41; refine (text16_any _ (crc16_lt _) _).mono ?_; rintro e w' ⟨rfl, hb⟩))
      go_wp2
      go_ret2
      exact ⟨rfl, (Below.refl _ _).drew.trans hb⟩
    | false =>
      rw [hd] at hq
      unfold open16
      rw [openL_sum HL.out hq]
      rw [← hd] at hq
      clear hd
      go_enter Tryd.func36, Tryd.ntmps36
      go_wp2_with (go_at_call 45; refine (size16_any _ _).mono ?_; rintro e w' ⟨rfl, rfl⟩)
      go_region_held3 (fun w' => True) (trivial) (first
        | (go_at_call 13; refine (crc16_any _ ?_ _).mono ?_; (omega); rintro e w' ⟨rfl, rfl⟩)
        | (go_at_call 41; refine (text16_any _ (crc16_lt _) _).mono ?_; rintro e w' ⟨rfl, hb⟩))
      go_wp2
      go_ret2
      exact ⟨rfl, (Below.refl _ _).drew.trans hb⟩

theorem Open16_any (s : ByteArray) (hs : s.size ≤ 140737488351232) (w : World) :
    Calls Tryd.prog 16 #[.string s] w fun e w' =>
      e = .returned (.tuple #[.string ⟨(open16 s.data.toList).1.toArray⟩, .int .i64 ((open16 s.data.toList).2 : Nat)]) ∧ Below w.heap.size w w' := by
  obtain ⟨r, hr⟩ : ∃ r, r = open16 s.data.toList := ⟨_, rfl⟩
  have hc := open16_any s hs w
  rw [← hr] at hc ⊢
  have HC := Lib.hid hc; clear hc hr
  go_enter Tryd.func16, Tryd.ntmps16
  go_wp2_with (go_at_call 36; refine HC.out.mono ?_; rintro e w' ⟨rfl, hb⟩)
  go_ret2
  exact ⟨rfl, hb⟩
end Go.Proofs.YtkgenpoenpkpeaaDoor
