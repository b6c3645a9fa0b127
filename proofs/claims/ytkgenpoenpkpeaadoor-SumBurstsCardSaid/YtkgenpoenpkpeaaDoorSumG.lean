/- The walks of the statements' helpers Mod, reversed, flipped. -/
import Derived.Test.YtkgenpoenpkpeaaDoorSumF
import Derived.Laws.IdiomStrings
namespace Go.Proofs.YtkgenpoenpkpeaaDoor
open Go.RowKit Sum2

theorem mod_any (a n : Int) (h0 : -9223372036854775808 ≤ a) (h1 : a ≤ 9223372036854775807) (hn : 1 ≤ n) (hn2 : n ≤ 9223372036854775807) (w : World) :
    Calls Tryd.prog 25 #[.int .i64 a, .int .i64 n] w fun e w' => e = .returned (.int .i64 (a % n)) ∧ w = w' := by
  have hp : 0 ≤ a % n := Int.emod_nonneg _ (by omega)
  have hlt : a % n < n := Int.emod_lt_of_pos _ (by omega)
  obtain ⟨r, hr⟩ : ∃ r, r = a.tmod n := ⟨_, rfl⟩
  have hcase : (0 ≤ r ∧ a % n = r ∧ r < n) ∨ (r < 0 ∧ a % n = r + n ∧ -n < r) := by
    rw [hr]
    have e1 := Int.tmod_add_mul_tdiv a n
    have e2 := Int.emod_add_mul_ediv a n
    rcases Int.le_total 0 a with h | h
    · left
      rw [Int.tmod_eq_emod_of_nonneg h]
      exact ⟨hp, rfl, hlt⟩
    · have hneg : a.tmod n = -((-a) % n) := by
        have := Int.neg_tmod (-a) n
        rw [Int.neg_neg] at this
        rw [this, Int.tmod_eq_emod_of_nonneg (by omega)]
      have hq : 0 ≤ (-a) % n := Int.emod_nonneg _ (by omega)
      have hq2 : (-a) % n < n := Int.emod_lt_of_pos _ (by omega)
      by_cases hz : (-a) % n = 0
      · left
        have hd : n ∣ a := by
          have := Int.dvd_of_emod_eq_zero hz
          exact (Int.dvd_neg).1 this
        rw [hneg, hz, Int.emod_eq_zero_of_dvd hd]
        exact ⟨by omega, by omega, by omega⟩
      · right
        refine ⟨by omega, ?_, by omega⟩
        rw [hneg]
        have : a % n = (n - (-a) % n) % n := by
          rw [Int.emod_def (-a) n]
          have : n - (-a - n * (-a / n)) = a + n * (1 + (-a) / n) := by rw [Int.mul_add]; omega
          rw [this, Int.add_mul_emod_self_left]
        rw [this, Int.emod_eq_of_lt (by omega) (by omega)]; omega
  rcases hcase with ⟨c1, c2, c3⟩ | ⟨c1, c2, c3⟩
  · rw [c2]
    have hr' : a.tmod n = r := hr.symm
    clear hr c2 hp hlt
    go_enter Tryd.func25, Tryd.ntmps25
    go_wp2
    go_ret
    exact ⟨rfl, rfl⟩
  · rw [c2]
    have hr' : a.tmod n = r := hr.symm
    clear hr c2 hp hlt
    go_enter Tryd.func25, Tryd.ntmps25
    go_wp2
    go_ret
    exact ⟨rfl, rfl⟩

theorem reversed_any (s : ByteArray) (hs : s.size ≤ 140737488351232) (w : World) :
    Calls Tryd.prog 24 #[.string s] w fun e w' => e = .returned (.string ⟨s.data.toList.reverse.toArray⟩) ∧ w = w' := by
  go_enter Tryd.func24, Tryd.ntmps24
  go_wp2_with fail
  go_loop [3, 4] (fun v i => ∃ (k : Nat) (t : ByteArray), k ≤ s.size ∧ i = .int .i64 ((k : Int) - 1) ∧ v = .string t ∧ Hid (t.data.toList = (s.data.toList.drop k).reverse) ∧ t.size ≤ s.size) (fun _ i => (1 + intOf i).toNat)
  case atStart => exact ⟨s.size, ⟨#[]⟩, Nat.le_refl _, rfl, rfl, by simp [Hid], Nat.zero_le _⟩
  case round =>
    obtain ⟨k, t, hk, rfl, rfl, ht, hts⟩ := hrel
    by_cases hlt : 1 ≤ k
    · obtain ⟨j, rfl⟩ : ∃ j, k = j + 1 := ⟨k - 1, by omega⟩
      have hadd := run_string_add_sum (P := Tryd.prog) (a := t) (b := s.extract j (j + 1)) (h := by have := extract_le s j (j + 1); omega)
      have hdrop : s.data.toList.drop j = s[j]'(by omega) :: s.data.toList.drop (j + 1) := by
        rw [List.drop_eq_getElem_cons (by simp; omega)]; rfl
      have hex : (s.extract j (j + 1)).data.toList = [s[j]'(by omega)] := by
        rw [ByteArray.data_extract]
        simp only [Array.toList_extract, List.extract_eq_take_drop]
        rw [hdrop, show j + 1 - j = 1 by omega]; rfl
      have hfin : (t ++ s.extract j (j + 1)).data.toList = (s.data.toList.drop j).reverse := by
        rw [hdrop, List.reverse_cons, ← ht.out, ByteArray.data_append, Array.toList_append, hex]
      have hsz : (t ++ s.extract j (j + 1)).size ≤ s.size := by
        show (t ++ s.extract j (j + 1)).data.size ≤ _
        rw [← Array.length_toList, hfin]; simp
      have HF := Lib.hid hfin
      clear hfin hex hdrop
      go_wp2_with fail
      go_round
      case rel => exact ⟨j, t ++ s.extract j (j + 1), by omega, by go_num, rfl, HF.out, hsz⟩
      case measure => simp [intOf]; omega
    · obtain rfl : k = 0 := by omega
      go_wp2_with fail
      go_ret
      refine ⟨?_, rfl⟩
      have h := ht.out
      rw [List.drop_zero] at h
      have e : t = ⟨s.data.toList.reverse.toArray⟩ := by
        apply ByteArray.ext; apply Array.toList_inj.1; rw [h]
      rw [e]; rfl

/-- The first bytes of block g are l, and may be written. -/
def RowB (w : World) (g : Nat) (l : List UInt8) : Prop := ∀ j, (hj : j < l.length) → w.cell? ⟨g, j, none⟩ = some (.int .u8 (l[j].toNat : Int)) ∧ w.frozen? ⟨g, j, none⟩ = false
theorem RowB.bytes (w : World) (s : ByteArray) (cap : Nat) (ty : TypeId) (lo hi : Nat) (hlo : s.size ≤ lo) : RowB (w.alloc (.cells (bytesRow s cap) ty (lo, hi))) w.heap.size s.data.toList := by
  intro j hj
  have hj' : j < s.data.size := by simpa using hj
  rw [World.cell?_alloc_mark, World.frozen?_alloc_mark, bytesRow_at s cap j hj']
  refine ⟨by simp, ?_⟩
  have : ¬ lo ≤ j := by have : s.size = s.data.size := rfl; omega
  simp [this]
theorem RowB.drew {w : World} {g : Nat} {l : List UInt8} (h : RowB w g l) : RowB w.drew g l := h
theorem RowB.set {w : World} {g : Nat} {l : List UInt8} (h : RowB w g l) (i : Nat) (v : UInt8) : RowB (w.setCell ⟨g, i, none⟩ (.int .u8 (v.toNat : Int))) g (l.set i v) := by
  intro j hj
  rw [List.length_set] at hj
  obtain ⟨h1, h2⟩ := h j hj
  rw [World.frozen?_setCell, List.getElem_set]
  refine ⟨?_, h2⟩
  by_cases e : i = j
  · subst e
    rw [if_pos rfl]
    exact World.cell?_setCell_same w _ _ h1
  · rw [if_neg e]
    rw [World.cell?_setCell_other w _ _ _ (by simp)]
    exact h1
theorem rowB_string {w : World} {g cap : Nat} {l : List UInt8} {n : Nat} (h : RowB w g l) (hn : n = l.length) :
    (convert 23 9 (.slice (some ⟨g, 0, none⟩) n cap)).run Tryd.prog w = .ok (.string ⟨l.toArray⟩) w := by
  subst hn
  exact run_convert_bytes_back w _ _ 5 _ _ l Tryd.underlying23 Tryd.underlying5 Tryd.underlying9 (fun j hj => by rw [addr_add]; exact (h j hj).1)

theorem bit_is (p n : Nat) (hp : p < 4294967296) : bits .and .u32 ((p : Int) / 2 ^ n) 1 = ((p / 2 ^ n % 2 : Nat) : Int) := by
  have h := u32_and_nat (p / 2 ^ n) 1 (Nat.lt_of_le_of_lt (Nat.div_le_self _ _) hp) (by decide)
  rw [nat_mask1] at h
  have e : ((p / 2 ^ n : Nat) : Int) = (p : Int) / 2 ^ n := by rw [Int.natCast_ediv]; simp
  rw [e] at h
  exact h

theorem pow_mod8 (m : Nat) (h : 2 ^ m < 256) : (2 : Int) ^ m % 256 = ((2 ^ m : Nat) : Int) := by
  have e2 : ((2 ^ m : Nat) : Int) = (2 : Int) ^ m := Int.natCast_pow 2 m
  rw [← e2]
  generalize 2 ^ m = x at *
  omega

/-- What 'flipped' hands back. -/
def Flip (l : List UInt8) (k p most : Nat) (w : World) (e : Ending) (w' : World) : Prop :=
  ∃ n, n ≤ most ∧ k + n ≤ 8 * l.length ∧ e = .returned (.string ⟨(flipsN l k p n).toArray⟩) ∧ Below w.heap.size w w'

set_option maxHeartbeats 1000000 in
theorem flipped_any (s : ByteArray) (hs : s.size ≤ 10000) (k p most : Nat) (hk : k ≤ 8 * s.size) (hp : p < 4294967296) (hm : most ≤ 32) (w : World) :
    Calls Tryd.prog 26 #[.string s, .int .i64 k, .int .u32 p, .int .i64 most] w (Flip s.data.toList k p most w) := by
  have hcv := fun w => run_bytes_of_string (P := Tryd.prog) w 9 23 5 s Tryd.underlying9 Tryd.underlying23 Tryd.underlying5
  go_enter Tryd.func26, Tryd.ntmps26
  go_wp2_with fail
  clear hcv
  obtain ⟨cap, hcap⟩ : ∃ c, c = grownCap w s.size 0 5 := ⟨_, rfl⟩
  rw [← hcap]
  have hrow := (RowB.bytes w s cap 5 (bytesRow s cap).size ((bytesRow s cap).size + 1) (by unfold bytesRow; simp)).drew
  have hbel : Below w.heap.size w (w.alloc (.cells (bytesRow s cap) 5 ((bytesRow s cap).size, (bytesRow s cap).size + 1))).drew := ((Below.refl _ _).alloc (Nat.le_refl _) _).drew
  have hlen : s.data.toList.length = s.size := by simp
  generalize World.drew _ = W0 at *
  generalize s.data.toList = l at *
  clear hcap
  go_loopw [10] (fun i wr => ∃ n : Nat, n ≤ most ∧ i = .int .i64 n ∧ k + n ≤ 8 * s.size ∧ RowB wr w.heap.size (flipsN l k p n) ∧ Below w.heap.size w wr) (fun i _ => most - (intOf i).toNat)
  case atStart => exact ⟨0, by omega, rfl, by omega, hrow, hbel⟩
  case round =>
    obtain ⟨n, hn, rfl, hkn, hrow', hbel'⟩ := hrel
    clear hrow hbel
    have hfl := flipsN_length l k p n
    by_cases hlt : n < most ∧ (k + n) / 8 < s.size
    · obtain ⟨l1, l2⟩ := hlt
      obtain ⟨q, hq⟩ : ∃ q, q = (k + n) / 8 := ⟨_, rfl⟩
      obtain ⟨m, hm8⟩ : ∃ m, m = (k + n) % 8 := ⟨_, rfl⟩
      have hq' : ((k : Int) + (n : Int)) / 8 = (q : Int) := by omega
      have hm' : ((k : Int) + (n : Int)) % 8 = (m : Int) := by omega
      have hqs : q < s.size := by omega
      have hm2 : m < 8 := by omega
      have HQ := Lib.hid hq; have HM := Lib.hid hm8; clear hq hm8
      have hqf : q < (flipsN l k p n).length := by rw [hfl, hlen]; exact hqs
      obtain ⟨hc, hf⟩ := hrow' q hqf
      obtain ⟨C, hC⟩ : ∃ C, C = (flipsN l k p n)[q] := ⟨_, rfl⟩
      rw [← hC] at hc
      have hC2 := u8lt C
      by_cases hb : p / 2 ^ n % 2 = 1
      · have hbits := bit_is p n hp
        rw [hb] at hbits
        have HB := Lib.hid hb; have HCC := Lib.hid hC; clear hb hC
        have hx : bits .xor .u8 (C.toNat : Int) (2 ^ m % 256) = ((C ^^^ UInt8.ofNat (2 ^ m)).toNat : Int) := by
          have h1 : 2 ^ m < 256 := by
            have := Nat.pow_lt_pow_right (a := 2) (by decide) hm2; simpa using this
          have h2 := u8_xor_nat C.toNat (2 ^ m) hC2 h1
          rw [UInt8.toNat_xor, UInt8.toNat_ofNat', Nat.mod_eq_of_lt h1]
          have e := pow_mod8 m h1
          rw [e]; exact h2
        have hstep : flipsN l k p (n + 1) = (flipsN l k p n).set q (C ^^^ UInt8.ofNat (2 ^ m)) := by
          show (if p / 2 ^ n % 2 = 1 then flipK (flipsN l k p n) (k + n) else flipsN l k p n) = _
          rw [if_pos HB.out]
          unfold flipK
          rw [← HQ.out, ← HM.out, List.getD_eq_getElem?_getD, List.getElem?_eq_getElem hqf, HCC.out]
          rfl
        have HS := Lib.hid hstep
        have hq8 := HQ.out
        have hmore : k + (n + 1) ≤ 8 * s.size := by omega
        clear hstep hq8
        go_wp2_with fail
        go_roundw
        case rel => exact ⟨n + 1, by omega, by go_num, hmore, by rw [HS.out]; exact hrow'.set q _, hbel'.setCell (Nat.le_refl _) _⟩
        case measure => simp [intOf]; omega
      · have hb0 : p / 2 ^ n % 2 = 0 := by omega
        have hbits := bit_is p n hp
        rw [hb0] at hbits
        have hstep : flipsN l k p (n + 1) = flipsN l k p n := by
          show (if p / 2 ^ n % 2 = 1 then flipK (flipsN l k p n) (k + n) else flipsN l k p n) = _
          rw [if_neg hb]
        have HS := Lib.hid hstep
        have hq8 := HQ.out
        have hmore : k + (n + 1) ≤ 8 * s.size := by omega
        clear hb hb0 hC hstep hq8
        go_wp2_with fail
        go_roundw
        case rel => exact ⟨n + 1, by omega, by go_num, hmore, by rw [HS.out]; exact hrow', hbel'⟩
        case measure => simp [intOf]; omega
    · have hstr := rowB_string (cap := cap) hrow' (show s.size = _ by rw [hfl, hlen])
      have hpost : Flip l k p most w (.returned (.string ⟨(flipsN l k p n).toArray⟩)) wr := ⟨n, hn, by rw [hlen]; exact hkn, rfl, hbel'⟩
      have HP := Lib.hid hpost
      clear hpost hrow' hbel' hkn
      by_cases h1 : n < most
      · have h2 : (s.size : Int) ≤ ((k : Int) + (n : Int)) / 8 := by omega
        clear hlt
        go_wp2
        go_ret
        exact HP.out
      · obtain rfl : n = most := by omega
        clear hlt
        go_wp2
        go_ret
        exact HP.out
end Go.Proofs.YtkgenpoenpkpeaaDoor
