/- The walks of the reference's Unquote and word, chapter 3. -/
import Derived.Test.YtbcofimmfbmkoaaDoorWordsT
import Derived.Test.YtbcofimmfbmkoaaDoorWordsJ
namespace Go.Proofs.YtbcofimmfbmkoaaDoor
open Go.RowKit Go.Shelf Words3

theorem unquote_bare {s : List UInt8} (h : bareB s = true) : unquoteF s = ⟨s, 0⟩ := by
  have := unquote_quote s
  unfold quoteF at this
  rw [if_pos h] at this
  exact this
theorem unquote_else {s : List UInt8} (h : bareB s = false) : unquoteF s = match rqF s with | some (t, r) => (if r.isEmpty = true then ⟨t, 0⟩ else ⟨[], 3⟩) | none => ⟨[], 3⟩ := by
  unfold unquoteF bodyF rqF
  by_cases hh : s.head? = some 34
  · simp only [if_pos hh]
    cases quotedL (s.drop 1) with
    | none => rfl
    | some p => obtain ⟨t, r⟩ := p; simp
  · simp only [if_neg hh]
    rw [if_neg]
    intro h1
    rw [Bool.and_eq_true, List.isEmpty_iff] at h1
    have h2 := List.drop_eq_nil_iff.1 h1.2
    rw [List.take_of_length_le h2, h] at h1
    exact absurd h1.1 (by simp)
set_option maxHeartbeats 1000000 in
theorem RUnquote_any (s : ByteArray) (hs : s.size ≤ 100000) (w : World) : Calls Tryd.prog 16 #[.string s] w fun e w' => e = .returned (.tuple #[.string ⟨(unquoteF s.data.toList).text.toArray⟩, .int .i64 ((unquoteF s.data.toList).err : Int)]) ∧ Below w.heap.size w w' := by
  have HB := Lib.hid (Rplain_any s (by omega) w)
  cases hb : bareB s.data.toList with
  | true =>
    have hu := unquote_bare hb
    rw [hb] at HB
    clear hb
    have hu := Lib.hid hu
    go_enter Tryd.func16, Tryd.ntmps16
    go_wp2_with (go_at_call 39; refine HB.out.mono ?_; rintro e w2 ⟨rfl, rfl⟩)
    refine bodyPost_ret (results_tmp2 rfl _ _ _) rfl ?_
    exact ⟨by rw [hu.out]; rfl, Below.refl _ _⟩
  | false =>
    have hu := unquote_else hb
    rw [hb] at HB
    clear hb
    have HQ := Lib.hid (Rquoted_any w 0 s hs (Nat.zero_le _) _ rfl)
    have hrest := fun t r => rqF_rest (s := s) (k := 0) (t := t) (r := r) (Nat.zero_le _)
    rw [List.drop_zero] at HQ
    simp only [List.drop_zero] at hrest
    generalize rqF s.data.toList = q at *
    cases q with
    | none =>
      have hu := Lib.hid hu
      have n1 : ((-1 : Int) != (s.size : Int)) = true := by rw [bne_iff_ne]; omega
      clear hrest
      go_enter Tryd.func16, Tryd.ntmps16
      go_wp2_with (first | (go_at_call 39; refine HB.out.mono ?_; rintro e w2 ⟨rfl, rfl⟩) | (go_at_call 40; refine HQ.out.mono ?_; rintro e w2 ⟨he, hb⟩; change e = _ at he; subst he))
      refine bodyPost_ret (results_tmp2 rfl _ _ _) rfl ?_
      exact ⟨by rw [hu.out]; rfl, hb⟩
    | some p =>
      obtain ⟨t, r⟩ := p
      obtain ⟨j, rfl, hj1, hj2⟩ := hrest t r rfl
      have HP := Lib.hid (posOf_drop s j hj2)
      have hie : (s.data.toList.drop j).isEmpty = decide (j = s.size) := by
        rw [Bool.eq_iff_iff, List.isEmpty_iff, decide_eq_true_eq, ← List.length_eq_zero_iff, List.length_drop, bytes_len]; omega
      dsimp only at hu
      rw [hie] at hu
      have hu := Lib.hid hu
      clear hrest hie
      rcases Nat.lt_or_ge j s.size with h1 | h1
      · have n1 : ((j : Int) != (s.size : Int)) = true := by rw [bne_iff_ne]; omega
        have hu2 := Lib.hid (show unquoteF s.data.toList = ⟨[], 3⟩ by rw [hu.out, decide_eq_false (by omega)]; rfl)
        go_enter Tryd.func16, Tryd.ntmps16
        go_wp2_with (first | (go_at_call 39; refine HB.out.mono ?_; rintro e w2 ⟨rfl, rfl⟩) | (go_at_call 40; refine HQ.out.mono ?_; rintro e w2 ⟨he, hb⟩; change e = .returned (.tuple #[.string ⟨t.toArray⟩, .int .i64 ((posOf s (s.data.toList.drop j) : Nat) : Int)]) at he; rw [HP.out] at he; subst he))
        refine bodyPost_ret (results_tmp2 rfl _ _ _) rfl ?_
        exact ⟨by rw [hu2.out]; rfl, hb⟩
      · obtain rfl : j = s.size := by omega
        have n1 : ((s.size : Int) != (s.size : Int)) = false := by simp
        have hu2 := Lib.hid (show unquoteF s.data.toList = ⟨t, 0⟩ by rw [hu.out, decide_eq_true rfl]; rfl)
        go_enter Tryd.func16, Tryd.ntmps16
        go_wp2_with (first | (go_at_call 39; refine HB.out.mono ?_; rintro e w2 ⟨rfl, rfl⟩) | (go_at_call 40; refine HQ.out.mono ?_; rintro e w2 ⟨he, hb⟩; change e = .returned (.tuple #[.string ⟨t.toArray⟩, .int .i64 ((posOf s (s.data.toList.drop s.size) : Nat) : Int)]) at he; rw [HP.out] at he; subst he))
        refine bodyPost_ret (results_tmp2 rfl _ _ _) rfl ?_
        exact ⟨by rw [hu2.out]; rfl, hb⟩

/-- What the reference's word hands back. -/
def RWPost (x : WordR) (k : Nat) (s : ByteArray) (e : Ending) : Prop :=
  (x.body.ok = true → e = .returned (.tuple #[.agg #[.int .i64 (k : Int), .string ⟨x.key.toArray⟩, .string ⟨x.body.text.toArray⟩], .int .i64 (posOf s x.body.rest : Int)])) ∧
    (x.body.ok = false → ∃ key : List UInt8, e = .returned (.tuple #[.agg #[.int .i64 (k : Int), .string ⟨key.toArray⟩, .string ⟨#[]⟩], .int .i64 (-1)]))
theorem stop_where (s : ByteArray) (k j : Nat) (hkj : k ≤ j) (hj : j ≤ s.size) (hb : ∀ i, k ≤ i → i < j → stopB (getz s i) = true) (he : j < s.size → stopB (getz s j) = false) : stop (s.data.toList.drop k) = j - k := by
  refine tw_eq stopB _ _ (by rw [List.length_drop, bytes_len]; omega) (fun h => ?_) (fun i hi hlt => ?_)
  · rw [getz_list, show k + (j - k) = j by omega]
    rw [List.length_drop, bytes_len] at h
    exact he (by omega)
  · rw [getz_list]
    exact hb _ (by omega) (by omega)
theorem wordRef_where (s : ByteArray) (k j : Nat) (hkj : k ≤ j) (hj : j ≤ s.size) (hb : ∀ i, k ≤ i → i < j → stopB (getz s i) = true) (he : j < s.size → stopB (getz s j) = false) :
    wordRef (s.data.toList.drop k) = if j < s.size ∧ getz s j = 61 then (if nameB ((s.data.toList.drop k).take (j - k)) = true then ⟨(s.data.toList.drop k).take (j - k), bodyR (s.data.toList.drop (j + 1))⟩ else ⟨[], ⟨[], false, []⟩⟩) else ⟨[], bodyR (s.data.toList.drop k)⟩ := by
  have h1 := stop_where s k j hkj hj hb he
  have h2 : stopEq (s.data.toList.drop k) = decide (j < s.size ∧ getz s j = 61) := by
    unfold stopEq
    rw [h1, List.getElem?_drop, show k + (j - k) = j by omega, Bool.eq_iff_iff, decide_eq_true_eq, decide_eq_true_eq]
    constructor
    · intro h
      obtain ⟨h3, h4⟩ := List.getElem?_eq_some_iff.1 h
      rw [bytes_len] at h3
      rw [get_list s j h3, getz_get s j h3] at h4
      exact ⟨h3, h4⟩
    · rintro ⟨h3, h4⟩
      rw [List.getElem?_eq_getElem (by rw [bytes_len]; exact h3), get_list s j h3, getz_get s j h3, h4]
  unfold wordRef
  rw [h2, h1, List.drop_drop, show k + (j - k + 1) = j + 1 by omega]
  by_cases h3 : j < s.size ∧ getz s j = 61
  · rw [decide_eq_true h3, if_pos rfl, if_pos h3]
  · rw [decide_eq_false h3, if_neg (by simp), if_neg h3]
theorem stopB_nat (c : UInt8) : stopB c = decide (c.toNat ≠ 32 ∧ c.toNat ≠ 61 ∧ c.toNat ≠ 34) := byte_all (P := fun c => stopB c = decide (c.toNat ≠ 32 ∧ c.toNat ≠ 61 ∧ c.toNat ≠ 34)) (by decide +kernel) c
end Go.Proofs.YtbcofimmfbmkoaaDoor
