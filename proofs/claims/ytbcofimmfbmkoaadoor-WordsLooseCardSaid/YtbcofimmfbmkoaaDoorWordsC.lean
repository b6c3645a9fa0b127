/- The walks of Number and Quote of chapter 3; the program's and the reference's. -/
import Derived.Test.YtbcofimmfbmkoaaDoorWordsB
import Derived.Test.YtbcofimmfbmkoaaDoorShelf
import Derived.Lib.SmallJoins
namespace Go.Proofs.YtbcofimmfbmkoaaDoor
open Go.RowKit Words3

def numV (s : List UInt8) : Value := match numF s with | some n => .tuple #[.int .u64 (n : Int), .bool true] | none => .tuple #[.int .u64 0, .bool false]
theorem numV_none {s : List UInt8} (h : numF s = none) : numV s = .tuple #[.int .u64 0, .bool false] := by unfold numV; rw [h]
theorem numV_some {s : List UInt8} {n : Nat} (h : numF s = some n) : numV s = .tuple #[.int .u64 (n : Int), .bool true] := by unfold numV; rw [h]
theorem numF_cons (s : ByteArray) (h0 : 0 < s.size) : numF s.data.toList = if s[0] = 48 ∧ s.size ≠ 1 then none else numGo s.data.toList 0 := by
  have e := get_list s 0 h0
  have hl := bytes_len s
  cases hs : s.data.toList with
  | nil => rw [hs] at hl; simp at hl; omega
  | cons c r =>
    simp only [hs, List.getElem_cons_zero] at e
    rw [hs, List.length_cons] at hl
    unfold numF
    rw [← e]
    have : (r ≠ []) = (s.size ≠ 1) := by
      rw [ne_eq, ← List.length_eq_zero_iff, ← hl]
      exact propext ⟨fun h => by omega, fun h => by omega⟩
    simp only [this]
theorem numGo_step (s : ByteArray) (k q : Nat) (h : k < s.size) : numGo (s.data.toList.drop k) q = if digit s[k] = true then (if 1125899906842624 < 10 * q + (s[k].toNat - 48) then none else numGo (s.data.toList.drop (k + 1)) (10 * q + (s[k].toNat - 48))) else none := by
  rw [List.drop_eq_getElem_cons (by simpa using h), get_list s k h]; rfl
theorem numGo_end (s : ByteArray) (q : Nat) : numGo (s.data.toList.drop s.size) q = some q := by
  rw [List.drop_of_length_le (by rw [bytes_len]; exact Nat.le_refl _)]; rfl

set_option maxHeartbeats 1000000 in
theorem RNumber_any (s : ByteArray) (hs : s.size ≤ 1000000) (w : World) : Calls Tryd.prog 18 #[.string s] w fun e w' => e = .returned (numV s.data.toList) ∧ w = w' := by
  by_cases h0 : s.size = 0
  · obtain ⟨e1, e2⟩ := str_nil s h0
    have hfin := Lib.hid (numV_none (show numF s.data.toList = none by rw [List.length_eq_zero_iff.1 ((bytes_len s).trans h0)]; rfl))
    go_enter Tryd.func18, Tryd.ntmps18
    go_wp2_with fail
    go_ret2
    exact ⟨by rw [hfin.out]; rfl, rfl⟩
  · obtain ⟨e1, e2⟩ := str_cons s (by omega)
    have h0' : 0 < s.size := by omega
    have hF := numF_cons s h0'
    by_cases hz : s[0].toNat = 48 ∧ s.size ≠ 1
    · have hfin := Lib.hid (numV_none (show numF s.data.toList = none by rw [hF, if_pos ⟨UInt8.toNat_inj.1 hz.1, hz.2⟩]))
      obtain ⟨hz1, hz2⟩ := hz
      have hz3 : decide ((1 : Int) < s.size) = true := lt_t (by omega)
      clear hF
      go_enter Tryd.func18, Tryd.ntmps18
      go_wp2_with fail
      go_ret2
      exact ⟨by rw [hfin.out]; rfl, rfl⟩
    · have hF : Hid (numF s.data.toList = numGo (s.data.toList.drop 0) 0) := Lib.hid (by rw [List.drop_zero]; exact hF.trans (if_neg (fun h => hz ⟨by rw [h.1]; rfl, h.2⟩)))
      have hz2 : (s[0].toNat = 48 ∧ s.size = 1) ∨ ((s[0].toNat : Int) == 48) = false := by
        by_cases h1 : s[0].toNat = 48
        · left; omega
        · right; exact (bne_nat _ 48 (by omega)).2
      clear hz
      rcases hz2 with ⟨hz2, hz3⟩ | hz2
      · have hz4 : decide ((1 : Int) < s.size) = false := lt_f (by omega)
        clear hz3
        go_enter Tryd.func18, Tryd.ntmps18
        go_wp2_with fail
        clear hz2
        go_loop [4, 5] (fun n i => ∃ k q : Nat, k ≤ s.size ∧ i = .int .i64 k ∧ n = .int .u64 q ∧ q ≤ 1125899906842624 ∧ Hid (numF s.data.toList = numGo (s.data.toList.drop k) q)) (fun _ i => s.size - (intOf i).toNat)
        case atStart => exact ⟨0, 0, Nat.zero_le _, rfl, rfl, Nat.zero_le _, hF⟩
        case round =>
          clear hF
          obtain ⟨k, q, hk, rfl, rfl, hq, hF⟩ := hrel
          by_cases hlt : k < s.size
          · have hlt' : decide ((k : Int) < s.size) = true := lt_t (by omega)
            have hltn : decide (k < s.size) = true := decide_eq_true hlt
            have hst := numGo_step s k q hlt
            rw [digit_nat] at hst
            have hn := UInt8.toNat_lt s[k]
            obtain ⟨n, hne⟩ : ∃ n, s[k].toNat = n := ⟨_, rfl⟩
            rw [hne] at hst hn
            by_cases hd : 48 ≤ n ∧ n ≤ 57
            · rw [if_pos (decide_eq_true hd)] at hst
              obtain ⟨hd1, hd2⟩ := hd
              have d1 := lt_f (a := n) (b := 48) (by omega)
              have d2 := lt_f (a := 57) (b := n) (by omega)
              by_cases hm : 1125899906842624 < 10 * q + (n - 48)
              · rw [if_pos hm] at hst
                have hfin := Lib.hid (numV_none (hF.out.trans hst))
                have d3 := lt_t (a := 1125899906842624) (b := 10 * (q : Int) + ((n : Int) - 48)) (by omega)
                clear hst hm
                go_wp2_with fail
                go_ret2
                exact ⟨by rw [hfin.out]; rfl, rfl⟩
              · rw [if_neg hm] at hst
                have hH := Lib.hid (hF.out.trans hst)
                have d3 := lt_f (a := 1125899906842624) (b := 10 * (q : Int) + ((n : Int) - 48)) (by omega)
                clear hst
                go_wp2_with fail
                go_round
                case rel => exact ⟨k + 1, 10 * q + (n - 48), hlt, by go_num, by congr 1; omega, by omega, hH⟩
                case measure => simp [intOf]; omega
            · rw [if_neg (by rw [decide_eq_false hd]; simp)] at hst
              have hfin := Lib.hid (numV_none (hF.out.trans hst))
              clear hst
              have hc : n < 48 ∨ 57 < n := by omega
              rcases hc with hc | hc
              · have d1 := lt_t (a := n) (b := 48) (by omega)
                go_wp2_with fail
                go_ret2
                exact ⟨by rw [hfin.out]; rfl, rfl⟩
              · have d1 := lt_f (a := n) (b := 48) (by omega)
                have d2 := lt_t (a := 57) (b := n) (by omega)
                go_wp2_with fail
                go_ret2
                exact ⟨by rw [hfin.out]; rfl, rfl⟩
          · have hlt' : decide ((k : Int) < s.size) = false := lt_f (by omega)
            have hltn : decide (k < s.size) = false := decide_eq_false hlt
            obtain rfl : k = s.size := by omega
            have hfin := Lib.hid (numV_some (hF.out.trans (numGo_end s q)))
            go_wp2_with fail
            go_ret2
            exact ⟨by rw [hfin.out]; rfl, rfl⟩
      · go_enter Tryd.func18, Tryd.ntmps18
        go_wp2_with fail
        clear hz2
        go_loop [4, 5] (fun n i => ∃ k q : Nat, k ≤ s.size ∧ i = .int .i64 k ∧ n = .int .u64 q ∧ q ≤ 1125899906842624 ∧ Hid (numF s.data.toList = numGo (s.data.toList.drop k) q)) (fun _ i => s.size - (intOf i).toNat)
        case atStart => exact ⟨0, 0, Nat.zero_le _, rfl, rfl, Nat.zero_le _, hF⟩
        case round =>
          clear hF
          obtain ⟨k, q, hk, rfl, rfl, hq, hF⟩ := hrel
          by_cases hlt : k < s.size
          · have hlt' : decide ((k : Int) < s.size) = true := lt_t (by omega)
            have hltn : decide (k < s.size) = true := decide_eq_true hlt
            have hst := numGo_step s k q hlt
            rw [digit_nat] at hst
            have hn := UInt8.toNat_lt s[k]
            obtain ⟨n, hne⟩ : ∃ n, s[k].toNat = n := ⟨_, rfl⟩
            rw [hne] at hst hn
            by_cases hd : 48 ≤ n ∧ n ≤ 57
            · rw [if_pos (decide_eq_true hd)] at hst
              obtain ⟨hd1, hd2⟩ := hd
              have d1 := lt_f (a := n) (b := 48) (by omega)
              have d2 := lt_f (a := 57) (b := n) (by omega)
              by_cases hm : 1125899906842624 < 10 * q + (n - 48)
              · rw [if_pos hm] at hst
                have hfin := Lib.hid (numV_none (hF.out.trans hst))
                have d3 := lt_t (a := 1125899906842624) (b := 10 * (q : Int) + ((n : Int) - 48)) (by omega)
                clear hst hm
                go_wp2_with fail
                go_ret2
                exact ⟨by rw [hfin.out]; rfl, rfl⟩
              · rw [if_neg hm] at hst
                have hH := Lib.hid (hF.out.trans hst)
                have d3 := lt_f (a := 1125899906842624) (b := 10 * (q : Int) + ((n : Int) - 48)) (by omega)
                clear hst
                go_wp2_with fail
                go_round
                case rel => exact ⟨k + 1, 10 * q + (n - 48), hlt, by go_num, by congr 1; omega, by omega, hH⟩
                case measure => simp [intOf]; omega
            · rw [if_neg (by rw [decide_eq_false hd]; simp)] at hst
              have hfin := Lib.hid (numV_none (hF.out.trans hst))
              clear hst
              have hc : n < 48 ∨ 57 < n := by omega
              rcases hc with hc | hc
              · have d1 := lt_t (a := n) (b := 48) (by omega)
                go_wp2_with fail
                go_ret2
                exact ⟨by rw [hfin.out]; rfl, rfl⟩
              · have d1 := lt_f (a := n) (b := 48) (by omega)
                have d2 := lt_t (a := 57) (b := n) (by omega)
                go_wp2_with fail
                go_ret2
                exact ⟨by rw [hfin.out]; rfl, rfl⟩
          · have hlt' : decide ((k : Int) < s.size) = false := lt_f (by omega)
            have hltn : decide (k < s.size) = false := decide_eq_false hlt
            obtain rfl : k = s.size := by omega
            have hfin := Lib.hid (numV_some (hF.out.trans (numGo_end s q)))
            go_wp2_with fail
            go_ret2
            exact ⟨by rw [hfin.out]; rfl, rfl⟩

set_option maxHeartbeats 1000000 in
theorem Number_any (s : ByteArray) (hs : s.size ≤ 1000000) (w : World) : Calls Tryd.prog 17 #[.string s] w fun e w' => e = .returned (numV s.data.toList) ∧ Below w.heap.size w w' := by
  have hcv := fun w => run_bytes_of_string (P := Tryd.prog) w 9 71 5 s Tryd.underlying9 Tryd.underlying71 Tryd.underlying5
  by_cases h0 : s.size = 0
  · obtain ⟨e1, e2⟩ := str_nil s h0
    have hfin := Lib.hid (numV_none (show numF s.data.toList = none by rw [List.length_eq_zero_iff.1 ((bytes_len s).trans h0)]; rfl))
    go_enter Tryd.func17, Tryd.ntmps17
    go_wp2_with fail
    go_ret2
    exact ⟨by rw [hfin.out]; rfl, Below.refl _ _⟩
  · obtain ⟨e1, e2⟩ := str_cons s (by omega)
    have h0' : 0 < s.size := by omega
    have hF := numF_cons s h0'
    by_cases hz : s[0].toNat = 48 ∧ s.size ≠ 1
    · have hfin := Lib.hid (numV_none (show numF s.data.toList = none by rw [hF, if_pos ⟨UInt8.toNat_inj.1 hz.1, hz.2⟩]))
      obtain ⟨hz1, hz2⟩ := hz
      have hz3 : decide ((1 : Int) < s.size) = true := lt_t (by omega)
      clear hF
      go_enter Tryd.func17, Tryd.ntmps17
      go_wp2_with fail
      go_ret2
      exact ⟨by rw [hfin.out]; rfl, Below.refl _ _⟩
    · have hF : Hid (numF s.data.toList = numGo (s.data.toList.drop 0) 0) := Lib.hid (by rw [List.drop_zero]; exact hF.trans (if_neg (fun h => hz ⟨by rw [h.1]; rfl, h.2⟩)))
      have hz2 : (s[0].toNat = 48 ∧ s.size = 1) ∨ ((s[0].toNat : Int) == 48) = false := by
        by_cases h1 : s[0].toNat = 48
        · left; omega
        · right; exact (bne_nat _ 48 (by omega)).2
      clear hz
      rcases hz2 with ⟨hz2, hz3⟩ | hz2
      · have hz4 : decide ((1 : Int) < s.size) = false := lt_f (by omega)
        clear hz3
        go_enter Tryd.func17, Tryd.ntmps17
        go_wp2_with fail
        clear hcv
        obtain ⟨cap, hcap⟩ : ∃ c, c = grownCap w s.size 0 5 := ⟨_, rfl⟩
        rw [← hcap]
        have hrow := (RowB.bytes w s cap 5 (bytesRow s cap).size ((bytesRow s cap).size + 1) (by unfold bytesRow; simp only [Array.size_append, Array.size_map]; exact Nat.le_add_right _ _)).drew
        have hbel : Below w.heap.size w (w.alloc (.cells (bytesRow s cap) 5 ((bytesRow s cap).size, (bytesRow s cap).size + 1))).drew := ((Below.refl _ _).alloc (Nat.le_refl _) _).drew
        clear hcap
        obtain ⟨g, hg⟩ : ∃ g, g = w.heap.size := ⟨_, rfl⟩
        rw [← hg] at hrow ⊢
        have hgh := Lib.hid hg
        clear hg
        generalize World.drew _ = W0 at *
        have HR := Lib.hid hrow
        clear hrow
        clear hz2
        go_loop [4, 22] (fun n i => ∃ k q : Nat, k ≤ s.size ∧ i = .int .i64 k ∧ n = .int .u64 q ∧ q ≤ 1125899906842624 ∧ Hid (numF s.data.toList = numGo (s.data.toList.drop k) q)) (fun _ i => s.size - (intOf i).toNat)
        case atStart => exact ⟨0, 0, Nat.zero_le _, rfl, rfl, Nat.zero_le _, hF⟩
        case round =>
          clear hF
          obtain ⟨k, q, hk, rfl, rfl, hq, hF⟩ := hrel
          by_cases hlt : k < s.size
          · have hlt' : decide ((k : Int) < s.size) = true := lt_t (by omega)
            have hltn : decide (k < s.size) = true := decide_eq_true hlt
            have hc := (HR.out k (by simpa using hlt)).1
            rw [get_list s k hlt] at hc
            have hst := numGo_step s k q hlt
            rw [digit_nat] at hst
            have hn := UInt8.toNat_lt s[k]
            obtain ⟨n, hne⟩ : ∃ n, s[k].toNat = n := ⟨_, rfl⟩
            rw [hne] at hst hn hc
            by_cases hd : 48 ≤ n ∧ n ≤ 57
            · rw [if_pos (decide_eq_true hd)] at hst
              obtain ⟨hd1, hd2⟩ := hd
              have d1 := lt_f (a := n) (b := 48) (by omega)
              have d2 := lt_f (a := 57) (b := n) (by omega)
              by_cases hm : 1125899906842624 < 10 * q + (n - 48)
              · rw [if_pos hm] at hst
                have hfin := Lib.hid (numV_none (hF.out.trans hst))
                have d3 := lt_t (a := 1125899906842624) (b := 10 * (q : Int) + ((n : Int) - 48)) (by omega)
                clear hst hm
                go_wp2_with fail
                go_ret2
                exact ⟨by rw [hfin.out]; rfl, hbel⟩
              · rw [if_neg hm] at hst
                have hH := Lib.hid (hF.out.trans hst)
                have d3 := lt_f (a := 1125899906842624) (b := 10 * (q : Int) + ((n : Int) - 48)) (by omega)
                clear hst
                go_wp2_with fail
                go_round
                case rel => exact ⟨k + 1, 10 * q + (n - 48), hlt, by go_num, by congr 1; omega, by omega, hH⟩
                case measure => simp [intOf]; omega
            · rw [if_neg (by rw [decide_eq_false hd]; simp)] at hst
              have hfin := Lib.hid (numV_none (hF.out.trans hst))
              clear hst
              have hcl : n < 48 ∨ 57 < n := by omega
              rcases hcl with hcl | hcl
              · have d1 := lt_t (a := n) (b := 48) (by omega)
                go_wp2_with fail
                go_ret2
                exact ⟨by rw [hfin.out]; rfl, hbel⟩
              · have d1 := lt_f (a := n) (b := 48) (by omega)
                have d2 := lt_t (a := 57) (b := n) (by omega)
                go_wp2_with fail
                go_ret2
                exact ⟨by rw [hfin.out]; rfl, hbel⟩
          · have hlt' : decide ((k : Int) < s.size) = false := lt_f (by omega)
            have hltn : decide (k < s.size) = false := decide_eq_false hlt
            obtain rfl : k = s.size := by omega
            have hfin := Lib.hid (numV_some (hF.out.trans (numGo_end s q)))
            go_wp2_with fail
            go_ret2
            exact ⟨by rw [hfin.out]; rfl, hbel⟩
      · go_enter Tryd.func17, Tryd.ntmps17
        go_wp2_with fail
        clear hcv
        obtain ⟨cap, hcap⟩ : ∃ c, c = grownCap w s.size 0 5 := ⟨_, rfl⟩
        rw [← hcap]
        have hrow := (RowB.bytes w s cap 5 (bytesRow s cap).size ((bytesRow s cap).size + 1) (by unfold bytesRow; simp only [Array.size_append, Array.size_map]; exact Nat.le_add_right _ _)).drew
        have hbel : Below w.heap.size w (w.alloc (.cells (bytesRow s cap) 5 ((bytesRow s cap).size, (bytesRow s cap).size + 1))).drew := ((Below.refl _ _).alloc (Nat.le_refl _) _).drew
        clear hcap
        obtain ⟨g, hg⟩ : ∃ g, g = w.heap.size := ⟨_, rfl⟩
        rw [← hg] at hrow ⊢
        have hgh := Lib.hid hg
        clear hg
        generalize World.drew _ = W0 at *
        have HR := Lib.hid hrow
        clear hrow
        clear hz2
        go_loop [4, 22] (fun n i => ∃ k q : Nat, k ≤ s.size ∧ i = .int .i64 k ∧ n = .int .u64 q ∧ q ≤ 1125899906842624 ∧ Hid (numF s.data.toList = numGo (s.data.toList.drop k) q)) (fun _ i => s.size - (intOf i).toNat)
        case atStart => exact ⟨0, 0, Nat.zero_le _, rfl, rfl, Nat.zero_le _, hF⟩
        case round =>
          clear hF
          obtain ⟨k, q, hk, rfl, rfl, hq, hF⟩ := hrel
          by_cases hlt : k < s.size
          · have hlt' : decide ((k : Int) < s.size) = true := lt_t (by omega)
            have hltn : decide (k < s.size) = true := decide_eq_true hlt
            have hc := (HR.out k (by simpa using hlt)).1
            rw [get_list s k hlt] at hc
            have hst := numGo_step s k q hlt
            rw [digit_nat] at hst
            have hn := UInt8.toNat_lt s[k]
            obtain ⟨n, hne⟩ : ∃ n, s[k].toNat = n := ⟨_, rfl⟩
            rw [hne] at hst hn hc
            by_cases hd : 48 ≤ n ∧ n ≤ 57
            · rw [if_pos (decide_eq_true hd)] at hst
              obtain ⟨hd1, hd2⟩ := hd
              have d1 := lt_f (a := n) (b := 48) (by omega)
              have d2 := lt_f (a := 57) (b := n) (by omega)
              by_cases hm : 1125899906842624 < 10 * q + (n - 48)
              · rw [if_pos hm] at hst
                have hfin := Lib.hid (numV_none (hF.out.trans hst))
                have d3 := lt_t (a := 1125899906842624) (b := 10 * (q : Int) + ((n : Int) - 48)) (by omega)
                clear hst hm
                go_wp2_with fail
                go_ret2
                exact ⟨by rw [hfin.out]; rfl, hbel⟩
              · rw [if_neg hm] at hst
                have hH := Lib.hid (hF.out.trans hst)
                have d3 := lt_f (a := 1125899906842624) (b := 10 * (q : Int) + ((n : Int) - 48)) (by omega)
                clear hst
                go_wp2_with fail
                go_round
                case rel => exact ⟨k + 1, 10 * q + (n - 48), hlt, by go_num, by congr 1; omega, by omega, hH⟩
                case measure => simp [intOf]; omega
            · rw [if_neg (by rw [decide_eq_false hd]; simp)] at hst
              have hfin := Lib.hid (numV_none (hF.out.trans hst))
              clear hst
              have hcl : n < 48 ∨ 57 < n := by omega
              rcases hcl with hcl | hcl
              · have d1 := lt_t (a := n) (b := 48) (by omega)
                go_wp2_with fail
                go_ret2
                exact ⟨by rw [hfin.out]; rfl, hbel⟩
              · have d1 := lt_f (a := n) (b := 48) (by omega)
                have d2 := lt_t (a := 57) (b := n) (by omega)
                go_wp2_with fail
                go_ret2
                exact ⟨by rw [hfin.out]; rfl, hbel⟩
          · have hlt' : decide ((k : Int) < s.size) = false := lt_f (by omega)
            have hltn : decide (k < s.size) = false := decide_eq_false hlt
            obtain rfl : k = s.size := by omega
            have hfin := Lib.hid (numV_some (hF.out.trans (numGo_end s q)))
            go_wp2_with fail
            go_ret2
            exact ⟨by rw [hfin.out]; rfl, hbel⟩
end Go.Proofs.YtbcofimmfbmkoaaDoor
