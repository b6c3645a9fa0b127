/- The walk of the statement SumOnly. -/
import Derived.Test.YtkgenpoenpkpeaaDoorSumF
import Derived.StillTailTactics
namespace Go.Proofs.YtkgenpoenpkpeaaDoor
open Go.RowKit Sum2

theorem four_bytes (b0 b1 b2 b3 : Nat) (h0 : b0 < 256) (h1 : b1 < 256) (h2 : b2 < 256) (h3 : b3 < 256) (W : World) (g : Nat) (c : Nat)
    (c0 : W.cell? ⟨g, 0, none⟩ = some (.int .u8 (b0 : Int))) (c1 : W.cell? ⟨g, 1, none⟩ = some (.int .u8 (b1 : Int))) (c2 : W.cell? ⟨g, 2, none⟩ = some (.int .u8 (b2 : Int))) (c3 : W.cell? ⟨g, 3, none⟩ = some (.int .u8 (b3 : Int))) :
    (convert 23 9 (.slice (some ⟨g, 0, none⟩) 4 c)).run Tryd.prog W = .ok (.string ⟨[UInt8.ofNat b0, UInt8.ofNat b1, UInt8.ofNat b2, UInt8.ofNat b3].toArray⟩) W := by
  exact run_convert_bytes_back _ _ _ 5 ⟨g, 0, none⟩ c [UInt8.ofNat b0, UInt8.ofNat b1, UInt8.ofNat b2, UInt8.ofNat b3] Tryd.underlying23 Tryd.underlying5 Tryd.underlying9 (fun j hj => by
    have hj : j < 4 := hj
    rw [addr_add]
    have e : j = 0 ∨ j = 1 ∨ j = 2 ∨ j = 3 := by omega
    rcases e with rfl | rfl | rfl | rfl
    · rw [c0]; simp; omega
    · rw [c1]; simp; omega
    · rw [c2]; simp; omega
    · rw [c3]; simp; omega)

theorem xor_bytes (a : UInt8) (o : Nat) : UInt8.ofNat (a.toNat ^^^ (o % 256)) = a ^^^ UInt8.ofNat o := by
  apply UInt8.toNat_inj.1
  have h : a.toNat ^^^ (o % 256) < 256 := Nat.xor_lt_two_pow (n := 8) (u8lt a) (by omega)
  rw [UInt8.toNat_ofNat', UInt8.toNat_xor, UInt8.toNat_ofNat', Nat.mod_eq_of_lt h]

theorem awake_only (s : ByteArray) (n m : Int) (h : 300 < s.size) (w : World) (ht : Tab w) :
    Calls Tryd.prog 7 #[.string s, .int .u32 n, .int .u32 m] w fun e w' => e = .returned (.bool true) ∧ Below w.heap.size w w' := by
  have HT := Lib.hid ht; clear ht
  have h' : (300 : Int) < (s.size : Int) := by omega
  clear h
  go_enter Tryd.func7, Tryd.ntmps7
  go_wp2_with (go_at_call 11; refine (awake_any _ HT.out).mono ?_; rintro e w' ⟨rfl, hbw⟩)
  go_ret
  exact ⟨rfl, hbw⟩

set_option maxHeartbeats 1000000 in
theorem only_any (s : ByteArray) (hs : s.size ≤ 300) (m o : Nat) (hm : m < 4294967296) (ho : o < 4294967296) (w : World) (ht : Tab w) :
    Calls Tryd.prog 7 #[.string s, .int .u32 m, .int .u32 o] w fun e w' => e = .returned (.bool true) ∧ Below w.heap.size w w' := by
  have HT := Lib.hid ht; clear ht
  have hs' : (s.size : Int) ≤ 300 := by omega
  have c1 := fun w => fix_any s (by omega) m hm w
  rw [fixL_ok (by simp; omega)] at c1
  obtain ⟨f, hf⟩ : ∃ f, f = fixReg s.data.toList m := ⟨_, rfl⟩
  have hf32 : f < 4294967296 := by rw [hf]; exact fixReg_lt _ hm
  have hfix := fix_sum s.data.toList hm
  have honly := crc32_only s.data.toList (text4 f) rfl hm ho (by rw [hf]; exact hfix)
  rw [← hf] at hfix c1
  obtain ⟨X, hX⟩ : ∃ X : ByteArray, X = ⟨(text4 f).toArray⟩ := ⟨_, rfl⟩
  have hXs : X.size = 4 := by rw [hX]; rfl
  have hsX : (s ++ X).data.toList = s.data.toList ++ text4 f := by rw [hX]; simp
  rw [← hX] at c1
  have hXl : text4 f = [X[0]'(by omega), X[1]'(by omega), X[2]'(by omega), X[3]'(by omega)] := by subst hX; rfl
  obtain ⟨z0, e0⟩ : ∃ z : Nat, z = (X[0]'(by omega)).toNat ^^^ (o % 256) := ⟨_, rfl⟩
  obtain ⟨z1, e1⟩ : ∃ z : Nat, z = (X[1]'(by omega)).toNat ^^^ (o / 256 % 256) := ⟨_, rfl⟩
  obtain ⟨z2, e2⟩ : ∃ z : Nat, z = (X[2]'(by omega)).toNat ^^^ (o / 65536 % 256) := ⟨_, rfl⟩
  obtain ⟨z3, e3⟩ : ∃ z : Nat, z = (X[3]'(by omega)).toNat ^^^ (o / 16777216 % 256) := ⟨_, rfl⟩
  obtain ⟨Y, hY⟩ : ∃ Y : ByteArray, Y = ⟨[UInt8.ofNat z0, UInt8.ofNat z1, UInt8.ofNat z2, UInt8.ofNat z3].toArray⟩ := ⟨_, rfl⟩
  have hYs : Y.size = 4 := by rw [hY]; rfl
  have hsY : (s ++ Y).data.toList = s.data.toList ++ over4 (text4 f) o := by
    rw [hY, hXl, e0, e1, e2, e3, xor_bytes, xor_bytes, xor_bytes, xor_bytes]; simp [over4]
  have a0 : IntKind.u8.wrap (o : Int) = ((o % 256 : Nat) : Int) := by rw [IntKind.wrap_u8']; omega
  have q1 : (o : Int) / 256 = ((o / 256 : Nat) : Int) := by omega
  have q2 : (o : Int) / 65536 = ((o / 65536 : Nat) : Int) := by omega
  have q3 : (o : Int) / 16777216 = ((o / 16777216 : Nat) : Int) := by omega
  have a1 : IntKind.u8.wrap ((o / 256 : Nat) : Int) = ((o / 256 % 256 : Nat) : Int) := by rw [IntKind.wrap_u8']; omega
  have a2 : IntKind.u8.wrap ((o / 65536 : Nat) : Int) = ((o / 65536 % 256 : Nat) : Int) := by rw [IntKind.wrap_u8']; omega
  have a3 : IntKind.u8.wrap ((o / 16777216 : Nat) : Int) = ((o / 16777216 % 256 : Nat) : Int) := by rw [IntKind.wrap_u8']; omega
  have x0 := u8_xor_nat (X[0]'(by omega)).toNat (o % 256) (u8lt _) (by omega)
  have x1 := u8_xor_nat (X[1]'(by omega)).toNat (o / 256 % 256) (u8lt _) (by omega)
  have x2 := u8_xor_nat (X[2]'(by omega)).toNat (o / 65536 % 256) (u8lt _) (by omega)
  have x3 := u8_xor_nat (X[3]'(by omega)).toNat (o / 16777216 % 256) (u8lt _) (by omega)
  rw [← e0] at x0
  rw [← e1] at x1
  rw [← e2] at x2
  rw [← e3] at x3
  have hz0 : z0 < 256 := by rw [e0]; exact Nat.xor_lt_two_pow (n := 8) (u8lt _) (by omega)
  have hz1 : z1 < 256 := by rw [e1]; exact Nat.xor_lt_two_pow (n := 8) (u8lt _) (by omega)
  have hz2 : z2 < 256 := by rw [e2]; exact Nat.xor_lt_two_pow (n := 8) (u8lt _) (by omega)
  have hz3 : z3 < 256 := by rw [e3]; exact Nat.xor_lt_two_pow (n := 8) (u8lt _) (by omega)
  have hcv := fun (W : World) (g : TypeId) => four_bytes z0 z1 z2 z3 hz0 hz1 hz2 hz3 (W.alloc (.cells #[.int .u8 (z0 : Int), .int .u8 (z1 : Int), .int .u8 (z2 : Int), .int .u8 (z3 : Int)] g)).drew W.heap.size 4
          (World.cell?_alloc_mark _ _ _ _ 0) (World.cell?_alloc_mark _ _ _ _ 1) (World.cell?_alloc_mark _ _ _ _ 2) (World.cell?_alloc_mark _ _ _ _ 3)
  rw [← hY] at hcv
  have hadd1 := run_string_add_sum (P := Tryd.prog) (a := s) (b := X) (h := by omega)
  have hadd2 := run_string_add_sum (P := Tryd.prog) (a := s) (b := Y) (h := by omega)
  have hsz1 : (s ++ X).size ≤ 9223372036854775807 := by rw [ByteArray.size_append]; omega
  have hsz2 : (s ++ Y).size ≤ 9223372036854775807 := by rw [ByteArray.size_append]; omega
  have d1 := crc32_any (s ++ X) hsz1
  rw [hsX, hfix] at d1
  have d2 := crc32_any (s ++ Y) hsz2
  rw [hsY] at d2
  obtain ⟨v, hv⟩ : ∃ v, v = crc32 (s.data.toList ++ over4 (text4 f) o) := ⟨_, rfl⟩
  rw [← hv] at d2 honly
  have hXs' : (X.size : Int) = 4 := by omega
  have C1 := Lib.hid c1; have D1 := Lib.hid d1; have D2 := Lib.hid d2
  clear c1 d1 d2 hv hY hsY hsX hX hXl hfix hf e0 e1 e2 e3 hsz1 hsz2 hYs
  generalize ((o / 256 : Nat)) = o1 at *
  generalize ((o / 65536 : Nat)) = o2 at *
  generalize ((o / 16777216 : Nat)) = o3 at *
  generalize o % 256 = p0 at *
  generalize o1 % 256 = p1 at *
  generalize o2 % 256 = p2 at *
  generalize o3 % 256 = p3 at *
  have hcase : (v = m ∧ o = 0) ∨ (((v : Int) == (m : Int)) = false ∧ ((o : Int) == 0) = false) := by
    by_cases h : o = 0
    · exact Or.inl ⟨honly.2 h, h⟩
    · refine Or.inr ⟨?_, by simp; omega⟩
      have : v ≠ m := fun e => h (honly.1 e)
      simp; omega
  clear honly
  rcases hcase with ⟨h1, h2⟩ | ⟨h1, h2⟩
  · subst h1
    have ho0 : ((o : Int) == 0) = true := by simp; omega
    clear h2
    go_enter Tryd.func7, Tryd.ntmps7
    go_wp2_with fail
    refine (C1.out _ HT.out).mono ?_; rintro e w1 ⟨rfl, hb1⟩
    have HT1 : Hid (Tab w1) := HT.out.below hb1
    go_wp2_with (go_at_call 12; refine (D1.out _ HT1.out).mono ?_; rintro e w2 ⟨rfl, rfl⟩)
    go_still_tail 23, (by kernel_rfl)
    change wpList _ _ _ _ _ w1.drew
    have HT2 : Hid (Tab (w1.alloc (.cells #[.int .u8 (z0 : Int), .int .u8 (z1 : Int), .int .u8 (z2 : Int), .int .u8 (z3 : Int)] 5)).drew) := HT1.out.below (((Below.refl _ _).alloc (Nat.le_refl _) _).drew)
    go_wp2_with fail
    refine (D2.out _ HT2.out).mono ?_; rintro e w2 ⟨rfl, rfl⟩
    go_wp2_with fail
    refine (awake_any _ HT2.out).mono ?_; rintro e w3 ⟨rfl, hb3⟩
    go_wp2
    go_ret
    exact ⟨rfl, andThen hb1 (andThen (((Below.refl _ _).alloc (Nat.le_refl _) _).drew) hb3)⟩
  · go_enter Tryd.func7, Tryd.ntmps7
    go_wp2_with fail
    refine (C1.out _ HT.out).mono ?_; rintro e w1 ⟨rfl, hb1⟩
    have HT1 : Hid (Tab w1) := HT.out.below hb1
    go_wp2_with (go_at_call 12; refine (D1.out _ HT1.out).mono ?_; rintro e w2 ⟨rfl, rfl⟩)
    go_still_tail 23, (by kernel_rfl)
    change wpList _ _ _ _ _ w1.drew
    have HT2 : Hid (Tab (w1.alloc (.cells #[.int .u8 (z0 : Int), .int .u8 (z1 : Int), .int .u8 (z2 : Int), .int .u8 (z3 : Int)] 5)).drew) := HT1.out.below (((Below.refl _ _).alloc (Nat.le_refl _) _).drew)
    go_wp2_with fail
    refine (D2.out _ HT2.out).mono ?_; rintro e w2 ⟨rfl, rfl⟩
    go_wp2_with fail
    refine (awake_any _ HT2.out).mono ?_; rintro e w3 ⟨rfl, hb3⟩
    go_wp2
    go_ret
    exact ⟨rfl, andThen hb1 (andThen (((Below.refl _ _).alloc (Nat.le_refl _) _).drew) hb3)⟩

theorem sumOnly_any (s : ByteArray) (_hs : s.size ≤ 140737488351232) (n : Int) (hn : (Lit.int .u32 n).wf = true) (m : Int) (hm : (Lit.int .u32 m).wf = true) (w : World) (ht : Tab w) :
    Calls Tryd.prog 7 #[.string s, .int .u32 n, .int .u32 m] w fun e w' => e = .returned (.bool true) ∧ Below w.heap.size w w' := by
  by_cases h : s.size ≤ 300
  · obtain ⟨n, rfl, hn'⟩ := u32_nat hn
    obtain ⟨m, rfl, hm'⟩ := u32_nat hm
    exact only_any s h n m hn' hm' w ht
  · exact awake_only s n m (by omega) w ht
end Go.Proofs.YtkgenpoenpkpeaaDoor
