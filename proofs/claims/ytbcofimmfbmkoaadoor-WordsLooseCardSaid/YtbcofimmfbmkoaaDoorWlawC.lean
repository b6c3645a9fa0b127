/- The walks of the law's own functions of chapter 3: light. -/
import Derived.Test.YtbcofimmfbmkoaaDoorWlawB
namespace Go.Proofs.YtbcofimmfbmkoaaDoor
open Go.RowKit Go.Shelf Words3

def SmallW (x : Wd) : Prop := x.key.length ≤ 100 ∧ x.text.length ≤ 1200
/-- Rows as the statements take them. -/
def Light (rs : List Rw) : Prop := rs.length ≤ 60 ∧ ∀ r ∈ rs, r.words.length ≤ 400 ∧ ∀ x ∈ r.words, SmallW x
def sumW (rs : List Rw) : Nat := (rs.map (fun r => r.words.length)).sum
theorem sumW_next (rs : List Rw) (i : Nat) (h : i < rs.length) : sumW (rs.take (i + 1)) = sumW (rs.take i) + rs[i].words.length := by
  unfold sumW
  rw [List.take_succ_eq_append_getElem h, List.map_append, List.sum_append]
  simp
theorem sumW_le (rs : List Rw) (m : Nat) (h : ∀ r ∈ rs, r.words.length ≤ m) : ∀ i, i ≤ rs.length → sumW (rs.take i) ≤ m * i
  | 0, _ => by rw [List.take_zero]; exact Nat.zero_le _
  | i + 1, hi => by
    have ih := sumW_le rs m h i (by omega)
    have := h rs[i] (List.getElem_mem (by omega))
    rw [sumW_next rs i (by omega), Nat.mul_succ]; omega
theorem le_sumW : ∀ (rs : List Rw), ∀ r ∈ rs, r.words.length ≤ sumW rs
  | [], r, h => by cases h
  | x :: rs, r, h => by
    have e : sumW (x :: rs) = x.words.length + sumW rs := by unfold sumW; simp
    rw [e]
    rcases List.mem_cons.1 h with rfl | h
    · omega
    · have := le_sumW rs r h; omega
/-- The words that were looked at are small. -/
def Seen (rs : List Rw) (i : Nat) : Prop := ∀ (j : Nat) (h : j < rs.length), j < i → ∀ (k : Nat) (hk : k < rs[j].words.length), k < 401 → SmallW rs[j].words[k]
theorem light_of (rs : List Rw) (h1 : rs.length ≤ 60) (h2 : sumW rs ≤ 400) (h3 : Seen rs rs.length) : Light rs := by
  refine ⟨h1, fun r hr => ?_⟩
  have h4 := le_sumW rs r hr
  obtain ⟨j, hj, rfl⟩ := List.getElem_of_mem hr
  refine ⟨by omega, fun x hx => ?_⟩
  obtain ⟨k, hk, rfl⟩ := List.getElem_of_mem hx
  exact h3 j hj hj k hk (by omega)
theorem seen_next (rs : List Rw) (i : Nat) (hi : i < rs.length) (h : Seen rs i) (h2 : ∀ (k : Nat) (hk : k < rs[i].words.length), k < 401 → SmallW rs[i].words[k]) : Seen rs (i + 1) := by
  intro j hj hlt
  rcases Nat.lt_or_ge j i with h3 | h3
  · exact h j hj h3
  · obtain rfl : j = i := by omega
    exact h2

set_option maxHeartbeats 10000000 in
set_option maxRecDepth 100000 in
theorem light_any (W : World) (v : Value) (rs : List Rw) (hv : RowsAt W v rs) (hn : rs.length ≤ 140737488355328) (hm : ∀ r ∈ rs, r.words.length ≤ 140737488355328) :
    Calls Tryd.prog 23 #[v] W fun e w' => ∃ b, e = .returned (.bool b) ∧ (b = true → Light rs) ∧ Below W.heap.size W w' := by
  obtain ⟨ad, c, rfl, hc⟩ := hv.slice
  have HV := Lib.hid hv
  clear hv
  go_enter Tryd.func23, Tryd.ntmps23
  go_wp2_with fail
  go_loopw [3, 4, 5] (fun n b i wr => ∃ k y : Nat, i = .int .i64 k ∧ n = .int .i64 (sumW (rs.take k)) ∧ b = .int .i64 y ∧ k ≤ rs.length ∧ k ≤ 61 ∧ y ≤ 500000 * k ∧ Hid (Below W.heap.size W wr ∧ Seen rs k)) (fun _ _ i _ => rs.length - (intOf i).toNat)
  case atStart => exact ⟨0, 0, rfl, rfl, rfl, Nat.zero_le _, Nat.zero_le _, Nat.zero_le _, Lib.hid ⟨Below.refl _ _, fun j _ h => absurd h (by omega)⟩⟩
  case round =>
    obtain ⟨i, y, rfl, rfl, rfl, hi, hi61, hy, hI⟩ := hrel
    obtain ⟨V, rfl⟩ : ∃ V, V = wr := ⟨wr, rfl⟩
    have d0 : (0 : Int) ≤ (i : Int) := by omega
    have hsl := sumW_le rs _ hm i hi
    rcases Nat.lt_or_ge i rs.length with hil | hig
    · have d1 : (i : Int) < rs.length := by omega
      have d2 := lt_t (a := (i : Int)) (b := rs.length) (by omega)
      have d2b : decide (i < rs.length) = true := decide_eq_true hil
      by_cases h61 : i < 61
      · have d3 := lt_t (a := (i : Int)) (b := 61) (by omega)
        have hml := hm rs[i] (List.getElem_mem hil)
        obtain ⟨a, u, rfl, x0, x1, hw⟩ := (HV.out.below hI.out.1).row (List.getElem?_eq_getElem hil)
        have hsn := sumW_next rs i hil
        have hse := fun h => seen_next rs i hil hI.out.2 h
        clear x0
        generalize rs[i].words = ws at *
        have HN := Lib.hid hsn
        have HS := Lib.hid hse
        have HW := Lib.hid hw
        clear hsn hse
        obtain ⟨ad2, c2, rfl, _⟩ := Row.slice hw
        generalize sumW (rs.take i) = sm at *
        have i1 : IntKind.i64.wrap ((sm : Int) + (ws.length : Int)) = (sm : Int) + (ws.length : Int) := by rw [IntKind.wrap_i64]; omega
        clear hw
        go_wp2_with fail
        go_loopw [4, 6] (fun b j wr => ∃ k y2 : Nat, j = .int .i64 k ∧ b = .int .i64 y2 ∧ k ≤ ws.length ∧ k ≤ 401 ∧ y2 ≤ 500000 * i + 1200 * k ∧ Hid (Below V.heap.size V wr ∧ ∀ (q : Nat) (hq : q < ws.length), q < k → SmallW ws[q])) (fun _ j _ => ws.length - (intOf j).toNat)
        case atStart => exact ⟨0, y, rfl, rfl, Nat.zero_le _, Nat.zero_le _, by omega, Lib.hid ⟨Below.refl _ _, fun q _ h => absurd h (by omega)⟩⟩
        case round =>
          obtain ⟨k, y2, rfl, rfl, hk, hk4, hy2, hJ⟩ := hrel
          obtain ⟨V2, rfl⟩ : ∃ V2, V2 = wr := ⟨wr, rfl⟩
          have e0 : (0 : Int) ≤ (k : Int) := by omega
          have x1 := cell_below hJ.out.1 x1
          rcases Nat.lt_or_ge k ws.length with hkl | hkg
          · have d4 : (k : Int) < ws.length := by omega
            have d5 := lt_t (a := (k : Int)) (b := ws.length) (by omega)
            have d5b : decide (k < ws.length) = true := decide_eq_true hkl
            by_cases h401 : k < 401
            · have d6 := lt_t (a := (k : Int)) (b := 401) (by omega)
              obtain ⟨a2, rfl, z0, z1, z2⟩ := (WordsAt.below HW.out hJ.out.1).word (List.getElem?_eq_getElem hkl)
              have hsm : SmallW ws[k] → Hid (∀ (q : Nat) (hq : q < ws.length), q < k + 1 → SmallW ws[q]) := fun h => Lib.hid (fun q hq h2 => by
                rcases Nat.lt_or_ge q k with h3 | h3
                · exact hJ.out.2 q hq h3
                · obtain rfl : q = k := by omega
                  exact h)
              generalize ws[k] = x at *
              have hb2 := hI.out.1.trans ((hJ.out.1.trans ((Go.Joins.below_alloc1 V2 (.cells #[.int .i64 (x.at_ : Int), .string ⟨x.key.toArray⟩, .string ⟨x.text.toArray⟩] 46)).mono hJ.out.1.size)).mono hI.out.1.size)
              have hb3 := hJ.out.1.trans ((Go.Joins.below_alloc1 V2 (.cells #[.int .i64 (x.at_ : Int), .string ⟨x.key.toArray⟩, .string ⟨x.text.toArray⟩] 46)).mono hJ.out.1.size)
              by_cases c1 : 100 < x.key.length
              · have d7 := lt_t (a := 100) (b := (x.key.length : Int)) (by omega)
                go_wp2_with fail
                go_ret
                exact ⟨_, rfl, fun h => (by cases h), hb2⟩
              · have d7 := lt_f (a := 100) (b := (x.key.length : Int)) (by omega)
                by_cases c2 : 1200 < x.text.length
                · have d8 := lt_t (a := 1200) (b := (x.text.length : Int)) (by omega)
                  go_wp2_with fail
                  go_ret
                  exact ⟨_, rfl, fun h => (by cases h), hb2⟩
                · have d8 := lt_f (a := 1200) (b := (x.text.length : Int)) (by omega)
                  have hS := hsm ⟨by omega, by omega⟩
                  have i2 : IntKind.i64.wrap ((y2 : Int) + (x.text.length : Int)) = (y2 : Int) + (x.text.length : Int) := by rw [IntKind.wrap_i64]; omega
                  go_wp2_with fail
                  exact ⟨⟨k + 1, y2 + x.text.length, by go_num, by go_num, hkl, by omega, by omega, Lib.hid ⟨hb3, hS.out⟩⟩, by simp only [intOf]; omega⟩
            · have d6 := lt_f (a := (k : Int)) (b := 401) (by omega)
              have hS := Lib.hid (HS.out (fun q hq h => hJ.out.2 q hq (by omega)))
              go_wp2_with fail
              exact ⟨⟨i + 1, y2, by go_num, by rw [HN.out]; go_num, rfl, hil, by omega, by omega, Lib.hid ⟨hI.out.1.trans (hJ.out.1.mono hI.out.1.size), hS.out⟩⟩, by simp only [intOf]; omega⟩
          · have d5 := lt_f (a := (k : Int)) (b := ws.length) (by omega)
            have d5b : decide (k < ws.length) = false := decide_eq_false (by omega)
            have hS := Lib.hid (HS.out (fun q hq h => hJ.out.2 q hq (by omega)))
            go_wp2_with fail
            exact ⟨⟨i + 1, y2, by go_num, by rw [HN.out]; go_num, rfl, hil, by omega, by omega, Lib.hid ⟨hI.out.1.trans (hJ.out.1.mono hI.out.1.size), hS.out⟩⟩, by simp only [intOf]; omega⟩
      · have d3 := lt_f (a := (i : Int)) (b := 61) (by omega)
        have d4 := le_f (a := (rs.length : Int)) (b := 60) (by omega)
        go_wp2_with fail
        go_ret
        exact ⟨_, rfl, fun h => (by cases h), hI.out.1⟩
    · have hie : i = rs.length := by omega
      have d2 := lt_f (a := (i : Int)) (b := rs.length) (by omega)
      have d2b : decide (i < rs.length) = false := decide_eq_false (by omega)
      have hR := Lib.hid (show rs.length ≤ 60 → sumW rs ≤ 400 → Light rs from fun h1 h2 => light_of rs h1 h2 (by rw [← hie]; exact hI.out.2))
      have hsm : sumW (rs.take i) = sumW rs := by rw [hie, List.take_length]
      have HSm := Lib.hid hsm
      clear hie hsm
      generalize sumW (rs.take i) = sm at *
      by_cases c1 : rs.length ≤ 60
      · have d4 := le_t (a := (rs.length : Int)) (b := 60) (by omega)
        by_cases c2 : sm ≤ 400
        · have d5 := le_t (a := (sm : Int)) (b := 400) (by omega)
          have hL := Lib.hid (hR.out c1 (by rw [← HSm.out]; exact c2))
          go_wp2_with fail
          go_ret
          exact ⟨_, rfl, fun _ => hL.out, hI.out.1⟩
        · have d5 := le_f (a := (sm : Int)) (b := 400) (by omega)
          go_wp2_with fail
          go_ret
          exact ⟨_, rfl, fun h => (by cases h), hI.out.1⟩
      · have d4 := le_f (a := (rs.length : Int)) (b := 60) (by omega)
        go_wp2_with fail
        go_ret
        exact ⟨_, rfl, fun h => (by cases h), hI.out.1⟩
end Go.Proofs.YtbcofimmfbmkoaaDoor
