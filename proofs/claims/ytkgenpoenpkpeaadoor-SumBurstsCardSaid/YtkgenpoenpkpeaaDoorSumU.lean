/- The walk of the statement SumBursts. -/
import Derived.Test.YtkgenpoenpkpeaaDoorSumG
import Derived.Test.YtkgenpoenpkpeaaDoorSumO
namespace Go.Proofs.YtkgenpoenpkpeaaDoor
open Go.RowKit Sum2

theorem open32_seal (l : List UInt8) : open32 (seal32 l) = (l, 0) := by
  unfold open32 seal32 openL
  have h4 : (text32 (crc32 l)).length = 4 := rfl
  rw [if_neg (by rw [List.length_append, h4]; omega), List.length_append, h4, Nat.add_sub_cancel, List.take_left, List.drop_left, if_pos rfl]
theorem open16_seal (l : List UInt8) : open16 (seal16 l) = (l, 0) := by
  unfold open16 seal16 openL
  have h4 : (text16 (crc16 l)).length = 2 := rfl
  rw [if_neg (by rw [List.length_append, h4]; omega), List.length_append, h4, Nat.add_sub_cancel, List.take_left, List.drop_left, if_pos rfl]

theorem open32_flips (l : List UInt8) (k p n : Nat) (hn : n ≤ 32) (hk : k + 32 ≤ 8 * l.length) (hne : flipsN (seal32 l) k p n ≠ seal32 l) : (open32 (flipsN (seal32 l) k p n)).2 = 10 := by
  have h := crc32_flips l k p n hn (by omega) hne
  have hlen : (flipsN (seal32 l) k p n).length = l.length + 4 := by rw [flipsN_length]; unfold seal32; rw [List.length_append]; rfl
  unfold open32 openL
  rw [if_neg (by omega), show (flipsN (seal32 l) k p n).length - 4 = l.length by omega]
  exact congrArg Prod.snd (if_neg h)

theorem open16_flips (l : List UInt8) (k p n : Nat) (hn : n ≤ 16) (hk : k + n ≤ 8 * (seal16 l).reverse.length) (hne : flipsN (seal16 l).reverse k p n ≠ (seal16 l).reverse) : (open16 (flipsN (seal16 l).reverse k p n).reverse).2 = 10 := by
  have h2 : (text16 (crc16 l)).length = 2 := rfl
  have hl : (seal16 l).reverse.length = l.length + 2 := by rw [List.length_reverse]; unfold seal16; rw [List.length_append, h2]
  have hs : Sealed (seal16 l).reverse := by
    unfold Sealed
    rw [List.reverse_reverse, hl, Nat.add_sub_cancel]
    unfold seal16
    rw [List.take_left, List.drop_left]
  have h := crc16_flips _ (by omega) hs k p n hn hk hne
  have hlen : (flipsN (seal16 l).reverse k p n).length = l.length + 2 := by rw [flipsN_length, hl]
  unfold Sealed at h
  unfold open16 openL
  rw [List.length_reverse, if_neg (by omega)]
  exact congrArg Prod.snd (if_neg h)

theorem i64_bounds {n : Int} (h : (Lit.int .i64 n).wf = true) : -9223372036854775808 ≤ n ∧ n ≤ 9223372036854775807 := by
  simp [Lit.wf, IntKind.min, IntKind.max, IntKind.signed, IntKind.bits] at h
  omega

theorem awake_bursts (s : ByteArray) (n m : Int) (h : 300 < s.size) (w : World) (ht : Tab w) :
    Calls Tryd.prog 5 #[.string s, .int .i64 n, .int .u32 m] w fun e w' => e = .returned (.bool true) ∧ Below w.heap.size w w' := by
  have HT := Lib.hid ht; clear ht
  have h' : (300 : Int) < (s.size : Int) := by omega
  clear h
  go_enter Tryd.func5, Tryd.ntmps5
  go_wp2_with (go_at_call 11; refine (awake_any _ HT.out).mono ?_; rintro e w' ⟨rfl, hbw⟩)
  go_ret
  exact ⟨rfl, hbw⟩

set_option maxHeartbeats 2000000 in
theorem bursts_any (s : ByteArray) (hs : s.size ≤ 300) (z : Int) (hz0 : -9223372036854775808 ≤ z) (hz1 : z ≤ 9223372036854775807) (p : Nat) (hp : p < 4294967296) (w : World) (ht : Tab w) :
    Calls Tryd.prog 5 #[.string s, .int .i64 z, .int .u32 p] w fun e w' => e = .returned (.bool true) ∧ Below w.heap.size w w' := by
  have HT := Lib.hid ht; clear ht
  have hs' : (s.size : Int) ≤ 300 := by omega
  have hl0 : s.data.toList.length = s.size := by simp
  obtain ⟨l, hl⟩ : ∃ l, l = s.data.toList := ⟨_, rfl⟩
  have hl1 : l.length = s.size := by rw [hl]; simp
  obtain ⟨T, hT⟩ : ∃ T : ByteArray, T = ⟨(seal32 l).toArray⟩ := ⟨_, rfl⟩
  have hTd : T.data.toList = seal32 l := by rw [hT]
  have hTs : T.size = s.size + 4 := by rw [hT, ← hl1]; show (seal32 l).toArray.size = _; unfold seal32; rw [List.size_toArray, List.length_append]; rfl
  obtain ⟨V, hV⟩ : ∃ T : ByteArray, T = ⟨(seal16 l).toArray⟩ := ⟨_, rfl⟩
  have hVd : V.data.toList = seal16 l := by rw [hV]
  have hVs : V.size = s.size + 2 := by rw [hV, ← hl1]; show (seal16 l).toArray.size = _; unfold seal16; rw [List.size_toArray, List.length_append]; rfl
  obtain ⟨U, hU⟩ : ∃ T : ByteArray, T = ⟨(seal16 l).reverse.toArray⟩ := ⟨_, rfl⟩
  have hUd : U.data.toList = (seal16 l).reverse := by rw [hU]
  have hUs : U.size = s.size + 2 := by
    have h1 : U.data.toList.length = U.size := by simp
    have h2 : V.data.toList.length = V.size := by simp
    rw [hUd, List.length_reverse, ← hVd, h2] at h1; omega
  have cT := seal32_any s (by omega)
  rw [← hl, ← hT] at cT
  have cV := seal16_any s (by omega)
  rw [← hl, ← hV] at cV
  have cU := reversed_any V (by omega)
  rw [hVd, ← hU] at cU
  have oT := Open32_any T (by omega)
  rw [hTd, open32_seal] at oT
  have cU2 := reversed_any U (by omega)
  rw [hUd, List.reverse_reverse, ← hV] at cU2
  have oV := Open16_any V (by omega)
  rw [hVd, open16_seal] at oV
  have hse : (⟨l.toArray⟩ : ByteArray) = s := by apply ByteArray.ext; apply Array.toList_inj.1; rw [hl]
  simp only [hse] at oT oV
  obtain ⟨k, hk⟩ : ∃ k : Nat, (k : Int) = z % (8 * (s.size : Int) + 1) := ⟨(z % (8 * (s.size : Int) + 1)).toNat, by have := Int.emod_nonneg z (show 8 * (s.size : Int) + 1 ≠ 0 by omega); omega⟩
  have hk8 : k ≤ 8 * s.size := by have := Int.emod_lt_of_pos z (show 0 < 8 * (s.size : Int) + 1 by omega); omega
  have cM := mod_any z (8 * (s.size : Int) + 1) hz0 hz1 (by omega) (by omega)
  rw [← hk] at cM
  have f1 := flipped_any T (by omega) k p 32 (by omega) hp (by omega)
  rw [hTd] at f1
  have f2 := flipped_any U (by omega) k p 16 (by omega) hp (by omega)
  rw [hUd] at f2
  have hTl : (seal32 l).length = s.size + 4 := by rw [← hTd]; simpa using hTs
  have hUl : (seal16 l).reverse.length = s.size + 2 := by rw [← hUd]; simpa using hUs
  have CT := Lib.hid cT; have CV := Lib.hid cV; have CU := Lib.hid cU; have OT := Lib.hid oT; have CU2 := Lib.hid cU2; have OV := Lib.hid oV; have CM := Lib.hid cM
  have F1 := Lib.hid f1; have F2 := Lib.hid f2
  have HTd := Lib.hid hTd; have HUd := Lib.hid hUd; have HL1 := Lib.hid hl1; have HTl := Lib.hid hTl; have HUl := Lib.hid hUl
  have hTs' : (T.size : Int) = (s.size : Int) + 4 := by omega
  have hUs' : (U.size : Int) = (s.size : Int) + 2 := by omega
  clear cT cV cU oT cU2 oV cM f1 f2 hTd hUd hVd hl hl0 hl1 hT hV hU hse hk hTl hUl hTs hUs hVs hz0 hz1
  go_enter Tryd.func5, Tryd.ntmps5
  go_wp2_with fail
  refine (CT.out _ HT.out).mono ?_; rintro e w1 ⟨rfl, b1⟩
  go_wp2_with fail
  refine (CV.out _).mono ?_; rintro e w2 ⟨rfl, b2⟩
  have B2 := andThen b1 b2; clear b1 b2
  go_wp2_with fail
  refine (CU.out _).mono ?_; rintro e w3 ⟨rfl, rfl⟩
  go_wp2_with fail
  refine (OT.out _ (HT.out.below B2)).mono ?_; rintro e w3 ⟨rfl, b3⟩
  have B3 := andThen B2 b3; clear B2 b3
  go_wp2_with fail
  refine (CU2.out _).mono ?_; rintro e w4 ⟨rfl, rfl⟩
  go_wp2_with fail
  refine (OV.out _).mono ?_; rintro e w4 ⟨rfl, b4⟩
  have B4 := andThen B3 b4; clear B3 b4
  go_wp2_with fail
  refine (CM.out _).mono ?_; rintro e w5 ⟨rfl, rfl⟩
  go_wp2_with fail
  refine (F1.out _).mono ?_; rintro e w5 ⟨n1, hn1, hkn1, rfl, b5⟩
  have B5 := andThen B4 b5; clear B4 b5
  obtain ⟨T2, hT2⟩ : ∃ T2 : ByteArray, T2 = ⟨(flipsN (seal32 l) k p n1).toArray⟩ := ⟨_, rfl⟩
  rw [← hT2]
  have HT2 := Lib.hid hT2; clear hT2
  go_wp2_with fail
  refine (F2.out _).mono ?_; rintro e w6 ⟨n2, hn2, hkn2, rfl, b6⟩
  have B6 := andThen B5 b6; clear B5 b6
  obtain ⟨U2, hU2⟩ : ∃ U2 : ByteArray, U2 = ⟨(flipsN (seal16 l).reverse k p n2).toArray⟩ := ⟨_, rfl⟩
  rw [← hU2]
  have HU2 := Lib.hid hU2; clear hU2
  have hT2s : T2.size ≤ 140737488351232 := by
    have h : T2.data.toList.length = T2.size := by simp
    have e := congrArg List.length (show T2.data.toList = flipsN (seal32 l) k p n1 by rw [HT2.out])
    rw [flipsN_length, HTl.out, h] at e; omega
  have hU2s : U2.size ≤ 140737488351232 := by
    have h : U2.data.toList.length = U2.size := by simp
    have e := congrArg List.length (show U2.data.toList = flipsN (seal16 l).reverse k p n2 by rw [HU2.out])
    rw [flipsN_length, HUl.out, h] at e; omega
  have oT2 := Open32_any T2 hT2s
  have rU2 := reversed_any U2 hU2s
  obtain ⟨W2, hW2⟩ : ∃ W2 : ByteArray, W2 = ⟨U2.data.toList.reverse.toArray⟩ := ⟨_, rfl⟩
  rw [← hW2] at rU2
  have hW2d : W2.data.toList = U2.data.toList.reverse := by rw [hW2]
  have oU2 := Open16_any W2 (by have h : W2.data.toList.length = W2.size := by simp
                                have h' : U2.data.toList.length = U2.size := by simp
                                rw [hW2d, List.length_reverse] at h; omega)
  obtain ⟨R1, hR1⟩ : ∃ R, R = open32 T2.data.toList := ⟨_, rfl⟩
  obtain ⟨R2, hR2⟩ : ∃ R, R = open16 W2.data.toList := ⟨_, rfl⟩
  rw [← hR1] at oT2
  rw [← hR2] at oU2
  have key1 : ((k : Int) + 32 ≤ 8 * (s.size : Int)) → (T2.toList == T.toList) = true ∨ ((T2.toList == T.toList) = false ∧ R1.2 = 10) := by
    intro h
    cases hb : T2.toList == T.toList with
    | true => exact Or.inl rfl
    | false =>
      refine Or.inr ⟨rfl, ?_⟩
      rw [hR1, HT2.out]
      refine open32_flips l k p n1 hn1 (by rw [HL1.out]; omega) ?_
      intro heq
      rw [bytes_toList, bytes_toList, HT2.out, HTd.out] at hb
      simp [heq] at hb
  have key2 : (U2.toList == U.toList) = true ∨ ((U2.toList == U.toList) = false ∧ R2.2 = 10) := by
    cases hb : U2.toList == U.toList with
    | true => exact Or.inl rfl
    | false =>
      refine Or.inr ⟨rfl, ?_⟩
      rw [hR2, hW2d, HU2.out]
      refine open16_flips l k p n2 hn2 hkn2 ?_
      intro heq
      rw [bytes_toList, bytes_toList, HU2.out, HUd.out] at hb
      simp [heq] at hb
  have OT2 := Lib.hid oT2; have RU2 := Lib.hid rU2; have OU2 := Lib.hid oU2
  have K1 := Lib.hid key1; have K2 := Lib.hid key2
  clear oT2 rU2 oU2 hR1 hR2 key1 key2 hW2 hW2d hkn1 hkn2 hn1 hn2
  go_wp2_with fail
  refine (OT2.out _ (HT.out.below B6)).mono ?_; rintro e w7 ⟨rfl, b7⟩
  have B7 := andThen B6 b7; clear B6 b7
  go_wp2_with fail
  refine (RU2.out _).mono ?_; rintro e w8 ⟨rfl, rfl⟩
  go_wp2_with fail
  refine (OU2.out _).mono ?_; rintro e w8 ⟨rfl, b8⟩
  have B8 := andThen B7 b8; clear B7 b8
  obtain ⟨E1, hE1⟩ : ∃ E : Int, E = (R1.2 : Int) := ⟨_, rfl⟩
  obtain ⟨E2, hE2⟩ : ∃ E : Int, E = (R2.2 : Int) := ⟨_, rfl⟩
  rw [← hE1, ← hE2]
  have k1 : ((k : Int) + 32 ≤ 8 * (s.size : Int)) → (T2.toList == T.toList) = true ∨ ((T2.toList == T.toList) = false ∧ E1 = 10) := fun h => (K1.out h).imp id (fun h => ⟨h.1, by rw [hE1, h.2]; rfl⟩)
  have k2 : (U2.toList == U.toList) = true ∨ ((U2.toList == U.toList) = false ∧ E2 = 10) := K2.out.imp id (fun h => ⟨h.1, by rw [hE2, h.2]; rfl⟩)
  clear hE1 hE2
  have AW := Lib.hid (awake_any _ (HT.out.below B8))
  have hA : (8 * (s.size : Int) < (k : Int) + 32) ∨ ((k : Int) + 32 ≤ 8 * (s.size : Int) ∧ (T2.toList == T.toList) = true) ∨ ((k : Int) + 32 ≤ 8 * (s.size : Int) ∧ (T2.toList == T.toList) = false ∧ E1 = 10) := by
    by_cases h : (k : Int) + 32 ≤ 8 * (s.size : Int)
    · rcases k1 h with h' | h'
      · exact Or.inr (Or.inl ⟨h, h'⟩)
      · exact Or.inr (Or.inr ⟨h, h'⟩)
    · exact Or.inl (by omega)
  clear k1
  rcases k2 with g1 | ⟨g1, rfl⟩
  · rcases hA with h1 | ⟨h0, h1⟩ | ⟨h0, h1, rfl⟩
    all_goals
      go_wp2_with fail
      refine AW.out.mono ?_; rintro e w9 ⟨rfl, b9⟩
      go_wp2
      go_ret
      exact ⟨rfl, andThen B8 b9⟩
  · rcases hA with h1 | ⟨h0, h1⟩ | ⟨h0, h1, rfl⟩
    all_goals
      go_wp2_with fail
      refine AW.out.mono ?_; rintro e w9 ⟨rfl, b9⟩
      go_wp2
      go_ret
      exact ⟨rfl, andThen B8 b9⟩

theorem sumBursts_any (s : ByteArray) (_hs : s.size ≤ 140737488351232) (n : Int) (hn : (Lit.int .i64 n).wf = true) (m : Int) (hm : (Lit.int .u32 m).wf = true) (w : World) (ht : Tab w) :
    Calls Tryd.prog 5 #[.string s, .int .i64 n, .int .u32 m] w fun e w' => e = .returned (.bool true) ∧ Below w.heap.size w w' := by
  by_cases h : s.size ≤ 300
  · obtain ⟨m, rfl, hm'⟩ := u32_nat hm
    obtain ⟨h0, h1⟩ := i64_bounds hn
    exact bursts_any s h n h0 h1 m hm' w ht
  · exact awake_bursts s n m (by omega) w ht
end Go.Proofs.YtkgenpoenpkpeaaDoor
