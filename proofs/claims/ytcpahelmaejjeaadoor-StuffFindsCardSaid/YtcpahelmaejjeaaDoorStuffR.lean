/- The walks of the document's answers of chapter 10: Put, Size, Frame, Get. -/
import Derived.Test.YtcpahelmaejjeaaDoorStuffL
import Derived.Test.YtcpahelmaejjeaaDoorKitB
namespace Go.Proofs.YtcpahelmaejjeaaDoor
open Go.RowKit Go.Shelf Stuff10

theorem extract_le (s : ByteArray) (a b : Nat) : (s.extract a b).size ≤ s.size := by simp; omega

set_option maxHeartbeats 2000000 in
set_option maxRecDepth 100000 in
theorem rput_any (s : ByteArray) (hs : s.size ≤ 20000) (w : World) :
    Calls Tryd.prog 14 #[.string s] w fun e w' => e = .returned (.tuple #[.string ⟨(put s.data.toList).toArray⟩, .int .i64 0]) ∧ Below w.heap.size w w' := by
  have hs' : decide ((20000 : Int) < s.size) = false := by simp; omega
  have hadd := run_string_add_sum (P := Tryd.prog) (a := s) (b := ⟨#[0]⟩) (h := by show s.size + 1 ≤ _; omega)
  obtain ⟨P, hP⟩ : ∃ P, P = put s.data.toList := ⟨_, rfl⟩
  have hPl : P.length ≤ 20079 := by
    have h := (put_sizes _ s.data.toList (Nat.le_refl _)).2.2
    rw [length_size] at h
    rw [hP]; omega
  rw [← hP]
  have HP := Lib.hid hP; clear hP
  go_enter Tryd.func14, Tryd.ntmps14
  go_wp2
  go_loopw [0, 4] (fun m out wr => ∃ (M O : ByteArray) , m = .string M ∧ out = .string O ∧ M.size ≤ 20001 ∧ ((M.size = 0 ∧ O.data.toList = P) ∨ ∃ l, M.data.toList = l ++ [0] ∧ O.data.toList ++ put l = P) ∧ Below w.heap.size w wr) (fun m _ _ => match m with | .string M => M.size | _ => 0)
  case atStart =>
    refine ⟨_, _, rfl, rfl, ?_, .inr ⟨s.data.toList, ?_, ?_⟩, Below.refl _ _⟩
    · have e1 : (⟨#[0]⟩ : ByteArray).size = 1 := rfl
      rw [ByteArray.size_append, e1]; omega
    · rw [ByteArray.data_append, Array.toList_append]
    · rw [HP.out]; rfl
  case round =>
    clear hadd hs'
    obtain ⟨M, O, rfl, rfl, hM, hMO, hbl⟩ := hrel
    rcases hMO with ⟨h0, hO⟩ | ⟨l, hl, hO⟩
    · have h0' : decide ((0 : Int) < M.size) = false := decide_eq_false (by omega)
      have h0n : ¬ 0 < M.size := by omega
      have hOP : O = ⟨P.toArray⟩ := by apply ByteArray.ext; apply Array.toList_inj.1; rw [hO]
      have HO := Lib.hid hOP
      clear hOP hO h0
      go_wp2
      go_ret2
      exact ⟨by rw [← HO.out]; rfl, hbl⟩
    · have hsz : M.size = l.length + 1 := by rw [← length_size, hl]; simp
      have h0' : decide ((0 : Int) < M.size) = true := by simp; omega
      have hr1 := run_le l
      have hr2 := run_le' l
      have hOs : O.size + (put l).length = P.length := by rw [← hO, List.length_append, length_size]
      obtain ⟨hz, _⟩ := run_spec (l ++ [0])
      have hstop : run l < 254 → (l ++ [0])[run l]? = some 0 := by
        have h := (run_spec (l ++ [0])).2
        rw [run_snoc] at h
        exact fun h1 => h h1 (by simp; omega)
      rw [run_snoc] at hz
      obtain ⟨r, hr⟩ : ∃ r, r = run l := ⟨_, rfl⟩
      rw [← hr] at hr1 hr2 hz hstop
      have hbyte : ∀ k (h : k < M.size), (l ++ [0])[k]? = some M[k] := by
        intro k h
        rw [← hl, List.getElem?_eq_getElem (by rw [length_size]; exact h)]; rfl
      have HO := Lib.hid hO
      have HL := Lib.hid hl
      have HR := Lib.hid hr
      have HZ := Lib.hid hz
      have HS := Lib.hid hstop
      clear hO hl hr hz hstop
      go_wp2
      go_loopw [5] (fun n wr' => ∃ k : Nat, n = .int .i64 k ∧ k ≤ r ∧ wr' = wr) (fun n _ => 254 - (intOf n).toNat)
      case atStart => exact ⟨0, rfl, Nat.zero_le _, rfl⟩
      case round =>
        obtain ⟨k, rfl, hk, rfl⟩ := hrel
        have hkM : k < M.size := by omega
        by_cases hlt : k < r
        · have h254 : decide ((k : Int) < 254) = true := by simp; omega
          have hne : ((M[k].toNat : Int) == 0) = false := by
            rw [beq_eq_false_iff_ne]
            intro e
            have e0 : M[k] = 0 := UInt8.toNat_inj.1 (by simpa using e)
            exact all_get HZ.out hlt (by rw [hbyte k hkM, e0])
          go_wp2
          go_roundw
          case rel => exact ⟨k + 1, rfl, hlt, trivial⟩
          case measure => simp [intOf]; omega
        · obtain rfl : k = r := by omega
          by_cases hfull : k = 254
          · subst hfull
            obtain ⟨t1, ht1⟩ : ∃ t, t = M.extract 0 254 := ⟨_, rfl⟩
            have ht1s : t1.size = 254 := by rw [ht1]; simp; omega
            have e1 : (⟨#[255]⟩ : ByteArray).size = 1 := rfl
            have hPs : (put l).length ≤ 20079 := by omega
            have hadd1 := run_string_add_sum (P := Tryd.prog) (a := O) (b := ⟨#[255]⟩) (h := by rw [e1]; omega)
            have hadd2 := run_string_add_sum (P := Tryd.prog) (a := O ++ ⟨#[255]⟩) (b := t1) (h := by rw [ByteArray.size_append, e1]; omega)
            have h254 : decide ((254 : Int) < 254) = false := rfl
            have h254M : 254 ≤ M.size := by omega
            rw [ht1] at hadd2
            go_wp2
            refine ⟨⟨_, _, rfl, rfl, ?_, .inr ⟨l.drop 254, ?_, ?_⟩, hbl⟩, ?_⟩
            · rw [← hsz]; have := extract_le M 254 M.size; omega
            · rw [← hsz, extract_drop, HL.out, List.drop_append_of_le_length (by omega)]
            · have e2 := HO.out
              rw [put_full HR.out.symm] at e2
              have e3 : enc (l.take 254) = 255 :: l.take 254 := by
                unfold enc; rw [List.length_take, Nat.min_eq_left (by omega)]; rfl
              rw [e3] at e2
              rw [ByteArray.data_append, ByteArray.data_append, Array.toList_append, Array.toList_append, extract_take, HL.out, List.take_append_of_le_length (by omega), ← e2]
              simp
            · show (M.extract 254 (l.length + 1)).size < M.size
              rw [← hsz]; simp; omega
          · have hlt254 : k < 254 := by omega
            have h254 : decide ((k : Int) < 254) = true := by simp; omega
            have hne : ((M[k].toNat : Int) == 0) = true := by
              have h := HS.out hlt254
              rw [hbyte k hkM] at h
              rw [Option.some.inj h]; rfl
            have hk254 : ((k : Int) == 254) = false := by simp; omega
            have hcv := one_string (1 + k) (by omega)
            have hcv2 := one_string_d (1 + k) (by omega)
            rw [show ((1 + k : Nat) : Int) = (k : Int) + 1 by omega] at hcv hcv2
            obtain ⟨Q, hQ⟩ : ∃ Q : ByteArray, Q = ⟨#[UInt8.ofNat (1 + k)]⟩ := ⟨_, rfl⟩
            have hQs : Q.size = 1 := by rw [hQ]; rfl
            rw [← hQ] at hcv hcv2
            have HQ := Lib.hid hQ
            clear hQ
            obtain ⟨T, hT⟩ : ∃ T : ByteArray, T = M.extract 0 k := ⟨_, rfl⟩
            have hTs : T.size ≤ M.size := by rw [hT]; exact extract_le _ _ _
            have HT := Lib.hid hT
            have hsl : M.extract 0 k = T := hT.symm
            clear hT
            have hPs : (put l).length ≤ 20079 := by omega
            have hadd1 := run_string_add_sum (P := Tryd.prog) (a := O) (b := Q) (h := by omega)
            have hadd2 := run_string_add_sum (P := Tryd.prog) (a := O ++ Q) (b := T) (h := by rw [ByteArray.size_append]; omega)
            have hkM' : k ≤ M.size := by omega
            have hkM1 : k + 1 ≤ M.size := by omega
            go_wp2
            go_region
            all_goals go_wp2
            have e2 := HO.out
            have hQl : Q.data.toList ++ T.data.toList = enc (l.take k) := by
              rw [HQ.out, HT.out, extract_take, HL.out, List.take_append_of_le_length hr2]
              show UInt8.ofNat (1 + k) :: l.take k = _
              unfold enc
              rw [List.length_take, Nat.min_eq_left hr2]
            refine ⟨⟨_, _, rfl, rfl, ?_, ?_, (hbl.alloc hbl.size _).drew⟩, ?_⟩
            · rw [← hsz]; have := extract_le M (k + 1) M.size; omega
            · rw [ByteArray.data_append, ByteArray.data_append, Array.toList_append, Array.toList_append, List.append_assoc, hQl]
              rcases Nat.lt_or_ge k l.length with hkl | hkl
              · refine .inr ⟨l.drop (k + 1), ?_, ?_⟩
                · rw [← hsz, extract_drop, HL.out, List.drop_append_of_le_length (by omega)]
                · rw [put_zero (by rw [← HR.out]; omega) (by rw [← HR.out]; omega), ← HR.out] at e2
                  rw [List.append_assoc]; exact e2
              · refine .inl ⟨?_, ?_⟩
                · rw [← hsz]; simp; omega
                · have hkl' : k = l.length := by omega
                  rw [put_last (by rw [← HR.out]; exact hkl') (by omega)] at e2
                  rw [hkl', List.take_length]; exact e2
            · show (M.extract (k + 1) (l.length + 1)).size < M.size
              rw [← hsz]; simp; omega

theorem rput_long (s : ByteArray) (hs : 20000 < s.size) (w : World) :
    Calls Tryd.prog 14 #[.string s] w fun e w' => e = .returned (.tuple #[.string ⟨#[]⟩, .int .i64 4]) ∧ w' = w := by
  have hs' : decide ((20000 : Int) < s.size) = true := by simp; omega
  go_enter Tryd.func14, Tryd.ntmps14
  go_wp2
  go_ret2
  exact ⟨rfl, rfl⟩

theorem RPut_any (s : ByteArray) (w : World) :
    Calls Tryd.prog 14 #[.string s] w fun e w' => e = .returned (.tuple #[.string ⟨(putS s.data.toList).1.toArray⟩, .int .i64 (putS s.data.toList).2]) ∧ Below w.heap.size w w' := by
  unfold putS
  rw [length_size]
  by_cases h : 20000 < s.size
  · rw [if_pos h]
    exact (rput_long s h w).mono fun e w' ⟨h1, h2⟩ => ⟨h1, h2 ▸ Below.refl _ _⟩
  · rw [if_neg h]
    exact rput_any s (by omega) w

theorem RSize_any (s : ByteArray) (w : World) :
    Calls Tryd.prog 16 #[.string s] w fun e w' => e = .returned (.tuple #[.int .i64 (putS s.data.toList).1.length, .int .i64 (putS s.data.toList).2]) ∧ Below w.heap.size w w' := by
  have hc := Lib.hid (RPut_any s w)
  obtain ⟨q, hq⟩ : ∃ q, q = putS s.data.toList := ⟨_, rfl⟩
  rw [← hq] at hc ⊢
  clear hq
  go_enter Tryd.func16, Tryd.ntmps16
  go_wp2_with fail
  refine (hc.out).mono ?_
  rintro e w' ⟨rfl, hb⟩
  go_wp2
  go_ret2
  exact ⟨rfl, hb⟩

theorem RFrame_any (s : ByteArray) (w : World) :
    Calls Tryd.prog 18 #[.string s] w fun e w' => e = .returned (.tuple #[.string ⟨(if 20000 < s.size then [] else put s.data.toList ++ [0]).toArray⟩, .int .i64 (if 20000 < s.size then 4 else 0)]) ∧ Below w.heap.size w w' := by
  by_cases h : 20000 < s.size
  · rw [if_pos h, if_pos h]
    have hc := Lib.hid (rput_long s h w)
    go_enter Tryd.func18, Tryd.ntmps18
    go_wp2_with fail
    refine (hc.out).mono ?_
    rintro e w' ⟨rfl, rfl⟩
    go_wp2
    go_ret2
    exact ⟨rfl, Below.refl _ _⟩
  · rw [if_neg h, if_neg h]
    have hc := Lib.hid (rput_any s (by omega) w)
    have hsz := (put_sizes _ s.data.toList (Nat.le_refl _)).2.2
    rw [length_size] at hsz
    generalize put s.data.toList = q at *
    go_enter Tryd.func18, Tryd.ntmps18
    go_wp2_with fail
    refine (hc.out).mono ?_
    rintro e w' ⟨rfl, hb⟩
    have hadd := run_string_add_sum (P := Tryd.prog) (a := ⟨q.toArray⟩) (b := ⟨#[0]⟩) (h := by show q.length + 1 ≤ _; omega)
    go_wp2
    go_ret2
    exact ⟨by rw [show (⟨q.toArray⟩ : ByteArray) ++ ⟨#[0]⟩ = ⟨(q ++ [0]).toArray⟩ from by apply ByteArray.ext; simp [ByteArray.data_append]]; rfl, hb⟩
end Go.Proofs.YtcpahelmaejjeaaDoor
