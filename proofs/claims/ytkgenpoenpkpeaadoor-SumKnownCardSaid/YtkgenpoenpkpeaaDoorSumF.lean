/- The walks of Fix, in the program and in the reference; the statement SumFixes. -/
import Derived.Test.YtkgenpoenpkpeaaDoorSumW
namespace Go.Proofs.YtkgenpoenpkpeaaDoor
open Go.RowKit Sum2

theorem and_top32 (q : Nat) (hq : q < 4294967296) : bits .and .u32 (q : Int) 2147483648 = if 2147483648 ≤ q then 2147483648 else 0 := by
  have := u32_and_nat q 2147483648 hq (by decide)
  have e : q &&& 2147483648 = if 2147483648 ≤ q then 2147483648 else 0 := by
    rw [show (2147483648 : Nat) = 2 ^ 31 from rfl, nat_bit]
    split <;> omega
  rw [show ((2147483648 : Int)) = ((2147483648 : Nat) : Int) from rfl, this, e]
  split <;> rfl
theorem or_one32 (z : Nat) (hz : z < 2147483648) : bits .or .u32 ((z : Int) * 2) 1 = ((z * 2 + 1 : Nat) : Int) := by
  have := u32_or_nat (z * 2) 1 (by omega) (by decide)
  rw [nat_join 1 (z * 2) 1 (by omega) (by decide)] at this
  exact this
theorem not_u32 (q : Nat) (hq : q < 4294967296) : bits .xor .u32 (if IntKind.u32.signed = true then (-1 : Int) else IntKind.u32.max) (q : Int) = ((q ^^^ 4294967295 : Nat) : Int) := by
  have := u32_xor_nat 4294967295 q (by decide) hq
  rw [Nat.xor_comm] at this
  exact this

/-- 'string(b[:])', b the four bytes of a number in a block. -/
theorem four_string (f : Nat) (b0 b1 b2 b3 : Nat) (h0 : b0 = f % 256) (h1 : b1 = f / 256 % 256) (h2 : b2 = f / 65536 % 256) (h3 : b3 = f / 16777216 % 256) (W : World) (g : Nat) (c : Nat)
    (c0 : W.cell? ⟨g, 0, none⟩ = some (.int .u8 (b0 : Int))) (c1 : W.cell? ⟨g, 1, none⟩ = some (.int .u8 (b1 : Int))) (c2 : W.cell? ⟨g, 2, none⟩ = some (.int .u8 (b2 : Int))) (c3 : W.cell? ⟨g, 3, none⟩ = some (.int .u8 (b3 : Int))) :
    (convert 23 9 (.slice (some ⟨g, 0, none⟩) 4 c)).run Tryd.prog W = .ok (.string ⟨(text4 f).toArray⟩) W := by
  exact run_convert_bytes_back _ _ _ 5 ⟨g, 0, none⟩ c (text4 f) Tryd.underlying23 Tryd.underlying5 Tryd.underlying9 (fun j hj => by
    have hj : j < 4 := hj
    rw [addr_add]
    have e : j = 0 ∨ j = 1 ∨ j = 2 ∨ j = 3 := by omega
    rcases e with rfl | rfl | rfl | rfl
    · rw [c0, h0]; simp [text4]
    · rw [c1, h1]; simp [text4]
    · rw [c2, h2]; simp [text4]
    · rw [c3, h3]; simp [text4])

theorem fixL_ok {l : List UInt8} {want : Nat} (h : l.length ≤ 20000) : fixL l want = (text4 (fixReg l want), 0) := by unfold fixL; rw [if_neg (by omega)]
theorem fixL_long {l : List UInt8} {want : Nat} (h : 20000 < l.length) : fixL l want = ([], 4) := by unfold fixL; rw [if_pos h]

theorem fix_any (s : ByteArray) (hs : s.size ≤ 140737488351232) (want : Nat) (hw : want < 4294967296) (w : World) (ht : Tab w) :
    Calls Tryd.prog 27 #[.string s, .int .u32 want] w fun e w' =>
      e = .returned (.tuple #[.string ⟨(fixL s.data.toList want).1.toArray⟩, .int .i64 ((fixL s.data.toList want).2 : Nat)]) ∧ Below w.heap.size w w' := by
  have HT := Lib.hid ht; clear ht
  by_cases hl : 20000 < s.size
  · have hl' : (20000 : Int) < (s.size : Int) := by omega
    rw [fixL_long (by simpa using hl)]
    go_enter Tryd.func27, Tryd.ntmps27
    go_wp2_with fail
    go_ret2
    exact ⟨rfl, Below.refl _ _⟩
  · have hl' : (s.size : Int) ≤ 20000 := by omega
    rw [fixL_ok (by simpa using hl)]
    obtain ⟨x, hx⟩ : ∃ x : Nat, x = want ^^^ 4294967295 := ⟨_, rfl⟩
    have hx32 : x < 4294967296 := by rw [hx]; exact Nat.xor_lt_two_pow (n := 32) hw (by decide)
    have e1 := not_u32 want hw
    rw [← hx] at e1
    have hf : fixReg s.data.toList want = iter back 32 x ^^^ reg32 4294967295 s.data.toList := by rw [hx]; rfl
    obtain ⟨f, hff⟩ : ∃ f : Nat, f = fixReg s.data.toList want := ⟨_, rfl⟩
    have hf32 : f < 4294967296 := by rw [hff]; exact fixReg_lt _ hw
    rw [← hff] at hf ⊢
    have HF := Lib.hid hf
    clear hf hff hx
    go_enter Tryd.func27, Tryd.ntmps27
    go_wp2_with fail
    go_loop [6, 14] (fun r i => ∃ k q : Nat, k ≤ 32 ∧ i = .int .i64 k ∧ r = .int .u32 q ∧ Hid (q = iter back k x) ∧ q < 4294967296) (fun _ i => 32 - (intOf i).toNat)
    case atStart => exact ⟨0, x, by omega, rfl, rfl, rfl, hx32⟩
    case round =>
      obtain ⟨k, q, hk, rfl, rfl, hq, hq32⟩ := hrel
      by_cases hlt : k < 32
      · have ea := and_top32 q hq32
        by_cases hh : 2147483648 ≤ q
        · rw [if_pos hh] at ea
          obtain ⟨z, hz⟩ : ∃ z : Nat, z = q ^^^ 2197175160 := ⟨_, rfl⟩
          have hz31 : z < 2147483648 := by rw [hz]; exact top_xor _ _ hq32 (by decide) hh (by decide)
          have ex : bits .xor .u32 (q : Int) 2197175160 = (z : Int) := by rw [hz]; exact u32_xor_nat q 2197175160 hq32 (by decide)
          have eo := or_one32 z hz31
          obtain ⟨y, hy⟩ : ∃ y : Nat, y = z * 2 + 1 := ⟨_, rfl⟩
          rw [← hy] at eo
          have hb : back q = y := by unfold back; rw [if_pos hh, hy, hz]
          have HB := Lib.hid hb
          have hy32 : y < 4294967296 := by omega
          clear hz hy hb
          go_wp2_with fail
          go_round
          case rel => exact ⟨k + 1, y, by omega, by go_num, rfl, by
            show y = iter back (k + 1) x
            rw [iter_succ', ← hq.out, HB.out], hy32⟩
          case measure => simp [intOf]; omega
        · rw [if_neg hh] at ea
          have hb : back q = q * 2 := by unfold back; rw [if_neg hh]
          have HB := Lib.hid hb
          clear hb
          go_wp2_with fail
          go_round
          case rel => exact ⟨k + 1, q * 2, by omega, by go_num, by go_num, by
            show q * 2 = iter back (k + 1) x
            rw [iter_succ', ← hq.out, HB.out], by omega⟩
          case measure => simp [intOf]; omega
      · obtain rfl : k = 32 := by omega
        obtain ⟨c, hc⟩ : ∃ c : Nat, c = crc32 s.data.toList := ⟨_, rfl⟩
        have hc32 : c < 4294967296 := by rw [hc]; exact crc32_lt _
        have e2 := not_u32 c hc32
        obtain ⟨r, hr⟩ : ∃ r : Nat, r = c ^^^ 4294967295 := ⟨_, rfl⟩
        rw [← hr] at e2
        have hr32 : r < 4294967296 := by rw [hr]; exact Nat.xor_lt_two_pow (n := 32) hc32 (by decide)
        have hrr : r = reg32 4294967295 s.data.toList := by rw [hr, hc]; unfold crc32; rw [xor_cancel]
        have e3 : bits .xor .u32 (q : Int) (r : Int) = (f : Int) := by rw [HF.out, ← hq.out, ← hrr]; exact u32_xor_nat q r hq32 hr32
        have HCC := Lib.hid hc
        clear hr hrr hc
        obtain ⟨b0, h0⟩ : ∃ b : Nat, b = f % 256 := ⟨_, rfl⟩
        obtain ⟨b1, h1⟩ : ∃ b : Nat, b = f / 256 % 256 := ⟨_, rfl⟩
        obtain ⟨b2, h2⟩ : ∃ b : Nat, b = f / 65536 % 256 := ⟨_, rfl⟩
        obtain ⟨b3, h3⟩ : ∃ b : Nat, b = f / 16777216 % 256 := ⟨_, rfl⟩
        have i0 : IntKind.u8.wrap (f : Int) = (b0 : Int) := by rw [IntKind.wrap_u8']; omega
        have i1 : IntKind.u8.wrap ((f : Int) / 256) = (b1 : Int) := by rw [IntKind.wrap_u8']; omega
        have i2 : IntKind.u8.wrap ((f : Int) / 65536) = (b2 : Int) := by rw [IntKind.wrap_u8']; omega
        have i3 : (f : Int) / 16777216 = (b3 : Int) := by omega
        have hcv := fun (W : World) (g : TypeId) => four_string f b0 b1 b2 b3 h0 h1 h2 h3 (W.alloc (.cells #[.int .u8 (b0 : Int), .int .u8 (b1 : Int), .int .u8 (b2 : Int), .int .u8 (b3 : Int)] g)) W.heap.size 4
          (World.cell?_alloc_mark _ _ _ _ 0) (World.cell?_alloc_mark _ _ _ _ 1) (World.cell?_alloc_mark _ _ _ _ 2) (World.cell?_alloc_mark _ _ _ _ 3)
        clear h0 h1 h2 h3
        go_wp2_with (go_at_call 12; refine (crc32_any s (by omega) _ HT.out).mono ?_; rw [← HCC.out]; rintro e w' ⟨rfl, rfl⟩)
        refine wp_loop_rounds 5 ?_
        rw [rounds_succ]; go_wp2_with fail
        rw [rounds_succ]; go_wp2_with fail
        rw [rounds_succ]; go_wp2_with fail
        rw [rounds_succ]; go_wp2_with fail
        rw [rounds_succ]; go_wp2_with fail
        go_ret2
        exact ⟨rfl, (Below.refl _ _).alloc (Nat.le_refl _) _⟩

theorem rfix_any (s : ByteArray) (hs : s.size ≤ 140737488351232) (want : Nat) (hw : want < 4294967296) (w : World) :
    Calls Tryd.prog 28 #[.string s, .int .u32 want] w fun e w' =>
      e = .returned (.tuple #[.string ⟨(fixL s.data.toList want).1.toArray⟩, .int .i64 ((fixL s.data.toList want).2 : Nat)]) ∧ Below w.heap.size w w' := by
  by_cases hl : 20000 < s.size
  · have hl' : (20000 : Int) < (s.size : Int) := by omega
    rw [fixL_long (by simpa using hl)]
    go_enter Tryd.func28, Tryd.ntmps28
    go_wp2_with fail
    go_ret2
    exact ⟨rfl, Below.refl _ _⟩
  · have hl' : (s.size : Int) ≤ 20000 := by omega
    rw [fixL_ok (by simpa using hl)]
    obtain ⟨x, hx⟩ : ∃ x : Nat, x = want ^^^ 4294967295 := ⟨_, rfl⟩
    have hx32 : x < 4294967296 := by rw [hx]; exact Nat.xor_lt_two_pow (n := 32) hw (by decide)
    have e1 : bits .xor .u32 (want : Int) 4294967295 = (x : Int) := by rw [hx]; exact u32_xor_nat want 4294967295 hw (by decide)
    have hf : fixReg s.data.toList want = iter back 32 x ^^^ reg32 4294967295 s.data.toList := by rw [hx]; rfl
    obtain ⟨f, hff⟩ : ∃ f : Nat, f = fixReg s.data.toList want := ⟨_, rfl⟩
    have hf32 : f < 4294967296 := by rw [hff]; exact fixReg_lt _ hw
    rw [← hff] at hf ⊢
    have HF := Lib.hid hf
    clear hf hff hx
    go_enter Tryd.func28, Tryd.ntmps28
    go_wp2_with fail
    go_loop [6, 7] (fun r i => ∃ k q : Nat, k ≤ 32 ∧ i = .int .i64 k ∧ r = .int .u32 q ∧ Hid (q = iter back k x) ∧ q < 4294967296) (fun _ i => 32 - (intOf i).toNat)
    case atStart => exact ⟨0, x, by omega, rfl, rfl, rfl, hx32⟩
    case round =>
      obtain ⟨k, q, hk, rfl, rfl, hq, hq32⟩ := hrel
      by_cases hlt : k < 32
      · by_cases hh : 2147483648 ≤ q
        · have hh' : decide ((2147483648 : Int) ≤ (q : Int)) = true := by simp; omega
          obtain ⟨z, hz⟩ : ∃ z : Nat, z = q ^^^ 2197175160 := ⟨_, rfl⟩
          have hz31 : z < 2147483648 := by rw [hz]; exact top_xor _ _ hq32 (by decide) hh (by decide)
          have ex : bits .xor .u32 (q : Int) 2197175160 = (z : Int) := by rw [hz]; exact u32_xor_nat q 2197175160 hq32 (by decide)
          have hb : back q = z * 2 + 1 := by unfold back; rw [if_pos hh, hz]
          have HB := Lib.hid hb
          clear hz hb hh
          go_wp2_with fail
          go_round
          case rel => exact ⟨k + 1, z * 2 + 1, by omega, by go_num, by go_num, by
            show z * 2 + 1 = iter back (k + 1) x
            rw [iter_succ', ← hq.out, HB.out], by omega⟩
          case measure => simp [intOf]; omega
        · have hh' : decide ((2147483648 : Int) ≤ (q : Int)) = false := by simp; omega
          have hh2 : q < 2147483648 := by omega
          have hb : back q = q * 2 := by unfold back; rw [if_neg hh]
          have HB := Lib.hid hb
          clear hb hh
          go_wp2_with fail
          go_round
          case rel => exact ⟨k + 1, q * 2, by omega, by go_num, by go_num, by
            show q * 2 = iter back (k + 1) x
            rw [iter_succ', ← hq.out, HB.out], by omega⟩
          case measure => simp [intOf]; omega
      · obtain rfl : k = 32 := by omega
        obtain ⟨c, hc⟩ : ∃ c : Nat, c = crc32 s.data.toList := ⟨_, rfl⟩
        have hc32 : c < 4294967296 := by rw [hc]; exact crc32_lt _
        obtain ⟨r, hr⟩ : ∃ r : Nat, r = q ^^^ c := ⟨_, rfl⟩
        have hr32 : r < 4294967296 := by rw [hr]; exact Nat.xor_lt_two_pow (n := 32) hq32 hc32
        have e2 : bits .xor .u32 (q : Int) (c : Int) = (r : Int) := by rw [hr]; exact u32_xor_nat q c hq32 hc32
        have e3 : bits .xor .u32 (r : Int) 4294967295 = (f : Int) := by
          have h := u32_xor_nat r 4294967295 hr32 (by decide)
          have e : f = r ^^^ 4294967295 := by rw [HF.out, ← hq.out, hr, hc]; unfold crc32; rw [Nat.xor_assoc, xor_cancel]
          rw [e]; exact h
        have HCC := Lib.hid hc
        clear hr hc
        obtain ⟨b0, h0⟩ : ∃ b : Nat, b = f % 256 := ⟨_, rfl⟩
        obtain ⟨b1, h1⟩ : ∃ b : Nat, b = f / 256 % 256 := ⟨_, rfl⟩
        obtain ⟨b2, h2⟩ : ∃ b : Nat, b = f / 65536 % 256 := ⟨_, rfl⟩
        obtain ⟨b3, h3⟩ : ∃ b : Nat, b = f / 16777216 % 256 := ⟨_, rfl⟩
        have i0 : IntKind.u8.wrap (f : Int) = (b0 : Int) := by rw [IntKind.wrap_u8']; omega
        have i1 : IntKind.u8.wrap ((f : Int) / 256) = (b1 : Int) := by rw [IntKind.wrap_u8']; omega
        have i2 : IntKind.u8.wrap ((f : Int) / 65536) = (b2 : Int) := by rw [IntKind.wrap_u8']; omega
        have i3 : (f : Int) / 16777216 = (b3 : Int) := by omega
        have hcv := fun (W : World) (g : TypeId) => four_string f b0 b1 b2 b3 h0 h1 h2 h3 (W.alloc (.cells #[.int .u8 (b0 : Int), .int .u8 (b1 : Int), .int .u8 (b2 : Int), .int .u8 (b3 : Int)] g)) W.heap.size 4
          (World.cell?_alloc_mark _ _ _ _ 0) (World.cell?_alloc_mark _ _ _ _ 1) (World.cell?_alloc_mark _ _ _ _ 2) (World.cell?_alloc_mark _ _ _ _ 3)
        clear h0 h1 h2 h3
        go_wp2_with (go_at_call 18; refine (rcrc32_any s (by omega) _).mono ?_; rw [← HCC.out]; rintro e w' ⟨rfl, rfl⟩)
        go_ret2
        exact ⟨rfl, (Below.refl _ _).alloc (Nat.le_refl _) _⟩

theorem u32_nat {n : Int} (h : (Lit.int .u32 n).wf = true) : ∃ m : Nat, n = (m : Int) ∧ m < 4294967296 := by
  simp [Lit.wf, IntKind.min, IntKind.max, IntKind.signed, IntKind.bits] at h
  exact ⟨n.toNat, by omega, by omega⟩

theorem sumFixes_any (s : ByteArray) (hs : s.size ≤ 140737488351232) (n : Int) (hn : (Lit.int .u32 n).wf = true) (w : World) (ht : Tab w) :
    Calls Tryd.prog 6 #[.string s, .int .u32 n] w fun e w' => e = .returned (.bool true) ∧ Below w.heap.size w w' := by
  have HT := Lib.hid ht; clear ht
  obtain ⟨m, rfl, hm⟩ := u32_nat hn
  obtain ⟨r, hr⟩ : ∃ r, r = fixL s.data.toList m := ⟨_, rfl⟩
  have c1 := fun w => fix_any s hs m hm w
  have c2 := fun w => rfix_any s hs m hm w
  rw [← hr] at c1 c2
  have C1 := Lib.hid c1; have C2 := Lib.hid c2
  clear c1 c2 hr hn
  have go : s.size ≤ 3000 ∨ (20000 < s.size ∧ s.size ≤ 20100) ∨ (3000 < s.size ∧ s.size ≤ 20000) ∨ 20100 < s.size := by omega
  rcases go with h1 | ⟨h1, h2⟩ | ⟨h1, h2⟩ | h1
  · have h1' : decide ((3000 : Int) < (s.size : Int)) = false := by simp; omega
    have h2' : decide ((20100 : Int) < (s.size : Int)) = false := by simp; omega
    clear h1
    go_enter Tryd.func6, Tryd.ntmps6
    go_wp2_with (go_at_call 27; refine (C1.out _ HT.out).mono ?_; rintro e w1 ⟨rfl, hb1⟩)
    refine (C2.out _).mono ?_; rintro e w2 ⟨rfl, hb2⟩
    have B2 := andThen hb1 hb2; clear hb1 hb2
    go_wp2_with fail
    refine (awake_any _ (HT.out.below B2)).mono ?_; rintro e w9 ⟨rfl, hb9⟩
    go_wp2
    go_ret
    exact ⟨rfl, andThen B2 hb9⟩
  · have h1' : decide ((3000 : Int) < (s.size : Int)) = true := by simp; omega
    have h2' : decide ((s.size : Int) ≤ 20000) = false := by simp; omega
    have h3' : decide ((20100 : Int) < (s.size : Int)) = false := by simp; omega
    clear h1 h2
    go_enter Tryd.func6, Tryd.ntmps6
    go_wp2_with (go_at_call 27; refine (C1.out _ HT.out).mono ?_; rintro e w1 ⟨rfl, hb1⟩)
    refine (C2.out _).mono ?_; rintro e w2 ⟨rfl, hb2⟩
    have B2 := andThen hb1 hb2; clear hb1 hb2
    go_wp2_with fail
    refine (awake_any _ (HT.out.below B2)).mono ?_; rintro e w9 ⟨rfl, hb9⟩
    go_wp2
    go_ret
    exact ⟨rfl, andThen B2 hb9⟩
  · have h1' : decide ((3000 : Int) < (s.size : Int)) = true := by simp; omega
    have h2' : decide ((s.size : Int) ≤ 20000) = true := by simp; omega
    clear h1 h2
    go_enter Tryd.func6, Tryd.ntmps6
    go_wp2_with (go_at_call 11; refine (awake_any _ HT.out).mono ?_; rintro e w' ⟨rfl, hbw⟩)
    go_ret
    exact ⟨rfl, hbw⟩
  · have h1' : decide ((3000 : Int) < (s.size : Int)) = true := by simp; omega
    have h2' : decide ((s.size : Int) ≤ 20000) = false := by simp; omega
    have h3' : decide ((20100 : Int) < (s.size : Int)) = true := by simp; omega
    clear h1
    go_enter Tryd.func6, Tryd.ntmps6
    go_wp2_with (go_at_call 11; refine (awake_any _ HT.out).mono ?_; rintro e w' ⟨rfl, hbw⟩)
    go_ret
    exact ⟨rfl, hbw⟩
end Go.Proofs.YtkgenpoenpkpeaaDoor
