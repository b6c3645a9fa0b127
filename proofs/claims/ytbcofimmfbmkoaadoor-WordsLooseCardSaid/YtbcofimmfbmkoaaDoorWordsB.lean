/- The walks of chapter 3's functions over texts: bare, plain, Name; the program's and the reference's. -/
import Derived.Test.YtbcofimmfbmkoaaDoorWordsA
import Derived.Deep.DeepCutAuto
import Derived.Deep.RegionHeld3
import Derived.Laws.IdiomStrings
namespace Go.Proofs.YtbcofimmfbmkoaaDoor
open Go.RowKit Words3

theorem bytes_len (s : ByteArray) : s.data.toList.length = s.size := by simp
theorem bytes_snoc (s : ByteArray) (k : Nat) (h : k < s.size) : s.data.toList.take (k + 1) = s.data.toList.take k ++ [s[k]] := by
  rw [List.take_succ_eq_append_getElem (by simpa using h)]; rfl
theorem bytes_all (s : ByteArray) : s.data.toList.take s.size = s.data.toList := List.take_of_length_le (by rw [bytes_len]; exact Nat.le_refl _)
theorem str_nil (s : ByteArray) (h : s.size = 0) : s.toList = [] ∧ s.toList.isEmpty = true := by
  have : s.toList = [] := by rw [Lib.toList_data]; exact List.length_eq_zero_iff.1 (by rw [bytes_len]; exact h)
  rw [this]; exact ⟨rfl, rfl⟩
theorem str_cons (s : ByteArray) (h : 0 < s.size) : ¬ s.toList = [] ∧ s.toList.isEmpty = false := by
  have : ¬ s.toList = [] := by rw [Lib.toList_data]; intro e; have := bytes_len s; rw [e] at this; simp at this; omega
  exact ⟨this, by simp [List.isEmpty_eq_false_iff, this]⟩
theorem u8_beq (c d : UInt8) : (((c.toNat : Int)) == (d.toNat : Int)) = (c == d) := by
  rw [Bool.eq_iff_iff, beq_iff_eq, beq_iff_eq]
  exact ⟨fun h => UInt8.toNat_inj.1 (by omega), fun h => by rw [h]⟩
theorem u8_bne (c d : UInt8) : (((c.toNat : Int)) != (d.toNat : Int)) = (c != d) := by unfold bne; rw [u8_beq]
theorem all_snoc (p : UInt8 → Bool) (s : ByteArray) (k : Nat) (h : k < s.size) : (s.data.toList.take (k + 1)).all p = ((s.data.toList.take k).all p && p s[k]) := by
  rw [bytes_snoc s k h, List.all_append]; simp
theorem all_false (p : UInt8 → Bool) (s : ByteArray) (k : Nat) (h : k < s.size) (hp : p s[k] = false) : s.data.toList.all p = false := by
  cases ha : s.data.toList.all p with
  | false => rfl
  | true =>
    rw [List.all_eq_true] at ha
    have := ha s[k] (by have := List.getElem_mem (l := s.data.toList) (n := k) (by simpa using h); exact this)
    rw [hp] at this; cases this
theorem get_list (s : ByteArray) (k : Nat) (h : k < s.size) : s.data.toList[k]'(by simpa using h) = s[k] := rfl
theorem bareB_pos (s : ByteArray) (h : s.data.toList.all openB = true) (h0 : 0 < s.size) : bareB s.data.toList = (s[0] != 35) := by
  unfold bareB
  rw [h]
  have e := get_list s 0 h0
  cases hl : s.data.toList with
  | nil => have := bytes_len s; rw [hl] at this; simp at this; omega
  | cons c r => simp only [hl, List.getElem_cons_zero] at e; rw [← e]; rfl
theorem bareB_all (s : List UInt8) (h : s.all openB = false) : bareB s = false := by unfold bareB; rw [h]; rfl

set_option maxHeartbeats 1000000 in
theorem bare_any (s : ByteArray) (hs : s.size ≤ 1000000) (w : World) : Calls Tryd.prog 41 #[.string s] w fun e w' => e = .returned (.bool (bareB s.data.toList)) ∧ Below w.heap.size w w' := by
  have hcv := fun w => run_bytes_of_string (P := Tryd.prog) w 9 71 5 s Tryd.underlying9 Tryd.underlying71 Tryd.underlying5
  go_enter Tryd.func41, Tryd.ntmps41
  go_wp2_with fail
  clear hcv
  obtain ⟨cap, hcap⟩ : ∃ c, c = grownCap w s.size 0 5 := ⟨_, rfl⟩
  rw [← hcap]
  have hrow := (RowB.bytes w s cap 5 (bytesRow s cap).size ((bytesRow s cap).size + 1) (by unfold bytesRow; simp only [Array.size_append, Array.size_map]; exact Nat.le_add_right _ _)).drew
  have hbel : Below w.heap.size w (w.alloc (.cells (bytesRow s cap) 5 ((bytesRow s cap).size, (bytesRow s cap).size + 1))).drew := ((Below.refl _ _).alloc (Nat.le_refl _) _).drew
  clear hcap
  obtain ⟨g, hg⟩ : ∃ g, g = w.heap.size := ⟨_, rfl⟩
  rw [← hg] at hrow ⊢
  have hgh := Lib.hid hg
  clear hg
  generalize World.drew _ = W0 at *
  have HR := Lib.hid hrow
  clear hrow
  go_loop [8] (fun i => ∃ k : Nat, k ≤ s.size ∧ i = .int .i64 k ∧ Hid ((s.data.toList.take k).all openB = true)) (fun i => s.size - (intOf i).toNat)
  case atStart => exact ⟨0, Nat.zero_le _, rfl, Lib.hid rfl⟩
  case round =>
    obtain ⟨k, hk, rfl, hall⟩ := hrel
    by_cases hlt : k < s.size
    · have hlt' : decide ((k : Int) < s.size) = true := by simp; omega
      have hltn : decide (k < s.size) = true := decide_eq_true hlt
      have hc := (HR.out k (by simpa using hlt)).1
      rw [get_list s k hlt] at hc
      have hsn := Lib.hid (all_snoc openB s k hlt)
      have hfl := Lib.hid (all_false openB s k hlt)
      obtain ⟨c, hce⟩ : ∃ c, c = s[k] := ⟨_, rfl⟩
      rw [← hce] at hc hsn hfl
      clear hce
      have HP := Lib.hid (fun W => plain_any c W)
      cases ho : openB c with
      | true =>
        rw [ho] at HP hsn
        clear ho
        go_wp2_with fail
        refine (HP.out _).mono ?_
        rintro e w1 ⟨rfl, rfl⟩
        go_wp2_with fail
        go_round
        case rel => exact ⟨k + 1, hlt, by go_num, Lib.hid (by rw [hsn.out, hall.out]; rfl)⟩
        case measure => simp [intOf]; omega
      | false =>
        rw [ho] at HP
        have hfin := Lib.hid (bareB_all _ (hfl.out ho))
        clear ho
        go_wp2_with fail
        refine (HP.out _).mono ?_
        rintro e w1 ⟨rfl, rfl⟩
        go_wp2_with fail
        go_ret
        exact ⟨by rw [hfin.out]; rfl, hbel⟩
    · have hlt' : decide ((k : Int) < s.size) = false := by simp; omega
      have hltn : decide (k < s.size) = false := decide_eq_false hlt
      obtain rfl : k = s.size := by omega
      by_cases h0 : s.size = 0
      · obtain ⟨e1, e2⟩ := str_nil s h0
        have hfin : bareB s.data.toList = false := by rw [List.length_eq_zero_iff.1 ((bytes_len s).trans h0)]; rfl
        go_wp2_with fail
        go_ret
        exact ⟨rfl, hbel⟩
      · have h0' : 0 < s.size := by omega
        obtain ⟨e1, e2⟩ := str_cons s h0'
        have hfin := Lib.hid (bareB_pos s (by have := hall.out; rw [bytes_all] at this; exact this) h0')
        go_wp2_with fail
        go_ret
        refine ⟨ret_bool ?_, hbel⟩
        rw [hfin.out]
        exact u8_bne s[0] 35

set_option maxHeartbeats 1000000 in
theorem Rplain_any (s : ByteArray) (hs : s.size ≤ 1000000) (w : World) : Calls Tryd.prog 39 #[.string s] w fun e w' => e = .returned (.bool (bareB s.data.toList)) ∧ w = w' := by
  go_enter Tryd.func39, Tryd.ntmps39
  go_wp2_with fail
  go_loop [3] (fun i => ∃ k : Nat, k ≤ s.size ∧ i = .int .i64 k ∧ Hid ((s.data.toList.take k).all openB = true)) (fun i => s.size - (intOf i).toNat)
  case atStart => exact ⟨0, Nat.zero_le _, rfl, Lib.hid rfl⟩
  case round =>
    obtain ⟨k, hk, rfl, hall⟩ := hrel
    by_cases hlt : k < s.size
    · have hlt' : decide ((k : Int) < s.size) = true := by simp; omega
      have hltn : decide (k < s.size) = true := decide_eq_true hlt
      have hsn := Lib.hid (all_snoc openB s k hlt)
      have hfl := Lib.hid (all_false openB s k hlt)
      have HP := Lib.hid (fun W => open_any s[k] W)
      cases ho : openB s[k] with
      | true =>
        have HP := Lib.hid (fun W => ho ▸ HP.out W)
        have hn := Lib.hid (show (s.data.toList.take (k + 1)).all openB = true by rw [hsn.out, hall.out, ho]; rfl)
        clear ho
        go_wp2_with fail
        refine (HP.out _).mono ?_
        rintro e w1 ⟨rfl, rfl⟩
        go_wp2_with fail
        go_round
        case rel => exact ⟨k + 1, hlt, by go_num, hn⟩
        case measure => simp [intOf]; omega
      | false =>
        have HP := Lib.hid (fun W => ho ▸ HP.out W)
        have hfin := Lib.hid (bareB_all _ (hfl.out ho))
        clear ho
        go_wp2_with fail
        refine (HP.out _).mono ?_
        rintro e w1 ⟨rfl, rfl⟩
        go_wp2_with fail
        go_ret
        exact ⟨by rw [hfin.out]; rfl, rfl⟩
    · have hlt' : decide ((k : Int) < s.size) = false := by simp; omega
      have hltn : decide (k < s.size) = false := decide_eq_false hlt
      obtain rfl : k = s.size := by omega
      by_cases h0 : s.size = 0
      · obtain ⟨e1, e2⟩ := str_nil s h0
        have hfin : bareB s.data.toList = false := by rw [List.length_eq_zero_iff.1 ((bytes_len s).trans h0)]; rfl
        go_wp2_with fail
        go_ret
        exact ⟨rfl, rfl⟩
      · have h0' : 0 < s.size := by omega
        obtain ⟨e1, e2⟩ := str_cons s h0'
        have hfin := Lib.hid (bareB_pos s (by have := hall.out; rw [bytes_all] at this; exact this) h0')
        go_wp2_with fail
        go_ret
        refine ⟨ret_bool ?_, rfl⟩
        rw [hfin.out]
        exact u8_bne s[0] 35

theorem nmGo_take (s : ByteArray) (k : Nat) (h : k < s.size) : nmGo (s.data.toList.take (k + 1)) = (nmGo (s.data.toList.take k) && (if k = 0 then letter s[k] else cont s[k])) := by
  rw [bytes_snoc s k h, nmGo_snoc]
  congr 1
  have : (s.data.toList.take k = []) = (k = 0) := by
    rw [← List.length_eq_zero_iff, List.length_take, bytes_len]
    exact propext ⟨fun h1 => by omega, fun h1 => by omega⟩
  simp only [this]
theorem nmGo_false (s : ByteArray) (k : Nat) (h : nmGo (s.data.toList.take k) = false) : nameB s.data.toList = false := by
  unfold nameB
  cases hn : nmGo s.data.toList with
  | false => rfl
  | true =>
    have := nmGo_pre (s.data.toList.take k) (s.data.toList.drop k) (by rw [List.take_append_drop]; exact hn)
    rw [h] at this; cases this
theorem name_class (n : Nat) : (97 ≤ n ∧ n ≤ 122) ∨ n = 45 ∨ (48 ≤ n ∧ n ≤ 57) ∨ (n < 48 ∧ n ≠ 45) ∨ (57 < n ∧ n < 97) ∨ 122 < n := by omega
theorem bne_nat (n : Nat) (k : Int) (h : (n : Int) ≠ k) : (((n : Int)) != k) = true ∧ (((n : Int)) == k) = false := by
  have h1 : (((n : Int)) == k) = false := beq_eq_false_iff_ne.2 h
  exact ⟨by unfold bne; rw [h1]; rfl, h1⟩
theorem le_t {a b : Int} (h : a ≤ b) : decide (a ≤ b) = true := decide_eq_true h
theorem le_f {a b : Int} (h : b < a) : decide (a ≤ b) = false := decide_eq_false (by omega)
theorem lt_t {a b : Int} (h : a < b) : decide (a < b) = true := decide_eq_true h
theorem lt_f {a b : Int} (h : b ≤ a) : decide (a < b) = false := decide_eq_false (by omega)
theorem nameB_fin (s : ByteArray) (h : nmGo (s.data.toList.take s.size) = true) : nameB s.data.toList = (decide ((1 : Int) ≤ s.size) && decide ((s.size : Int) ≤ 20)) := by
  rw [bytes_all] at h
  unfold nameB
  rw [h, bytes_len, Bool.true_and, show decide (1 ≤ s.size) = decide ((1 : Int) ≤ s.size) from by rw [decide_eq_decide]; omega, show decide (s.size ≤ 20) = decide ((s.size : Int) ≤ 20) from by rw [decide_eq_decide]; omega]
set_option maxHeartbeats 1000000 in
theorem Name_any (s : ByteArray) (hs : s.size ≤ 1000000) (w : World) : Calls Tryd.prog 21 #[.string s] w fun e w' => e = .returned (.bool (nameB s.data.toList)) ∧ Below w.heap.size w w' := by
  have hcv := fun w => run_bytes_of_string (P := Tryd.prog) w 9 71 5 s Tryd.underlying9 Tryd.underlying71 Tryd.underlying5
  go_enter Tryd.func21, Tryd.ntmps21
  go_wp2_with fail
  clear hcv
  obtain ⟨cap, hcap⟩ : ∃ c, c = grownCap w s.size 0 5 := ⟨_, rfl⟩
  rw [← hcap]
  have hrow := (RowB.bytes w s cap 5 (bytesRow s cap).size ((bytesRow s cap).size + 1) (by unfold bytesRow; simp only [Array.size_append, Array.size_map]; exact Nat.le_add_right _ _)).drew
  have hbel : Below w.heap.size w (w.alloc (.cells (bytesRow s cap) 5 ((bytesRow s cap).size, (bytesRow s cap).size + 1))).drew := ((Below.refl _ _).alloc (Nat.le_refl _) _).drew
  clear hcap
  obtain ⟨g, hg⟩ : ∃ g, g = w.heap.size := ⟨_, rfl⟩
  rw [← hg] at hrow ⊢
  have hgh := Lib.hid hg
  clear hg
  generalize World.drew _ = W0 at *
  have HR := Lib.hid hrow
  clear hrow
  go_loop [9] (fun i => ∃ k : Nat, k ≤ s.size ∧ i = .int .i64 k ∧ Hid (nmGo (s.data.toList.take k) = true)) (fun i => s.size - (intOf i).toNat)
  case atStart => exact ⟨0, Nat.zero_le _, rfl, Lib.hid rfl⟩
  case round =>
    obtain ⟨k, hk, rfl, hall⟩ := hrel
    by_cases hlt : k < s.size
    · have hlt' : decide ((k : Int) < s.size) = true := by simp; omega
      have hltn : decide (k < s.size) = true := decide_eq_true hlt
      have hc := (HR.out k (by simpa using hlt)).1
      rw [get_list s k hlt] at hc
      have hsn := nmGo_take s k hlt
      rw [hall.out, Bool.true_and, letter_nat, cont_nat] at hsn
      have hfl := Lib.hid (nmGo_false s (k + 1))
      have hn := UInt8.toNat_lt s[k]
      generalize s[k].toNat = n at hc hsn hn
      have hS := Lib.hid hsn
      clear hsn
      have hcl := name_class n
      by_cases hk0 : k = 0
      · have hk0' : ((k : Int) == 0) = true := by simp [hk0]
        have hk0n : (k == 0) = true := by simp [hk0]
        rw [if_pos hk0] at hS
        have hk0h := Lib.hid hk0
        clear hk0
        rcases hcl with hl | hcl
        · have hl2 := Lib.hid hl
          obtain ⟨hl0, hl1⟩ := hl
          go_wp2_with fail
          go_round
          case rel => exact ⟨k + 1, hlt, by go_num, Lib.hid (by rw [hS.out]; exact decide_eq_true hl2.out)⟩
          case measure => simp [intOf]; omega
        · have hfin := Lib.hid (hfl.out (by rw [hS.out]; exact decide_eq_false (by omega)))
          have hcl : n < 97 ∨ 122 < n := by omega
          rcases hcl with hcl | hcl
          · have d1 := le_f (a := 97) (b := n) (by omega)
            go_wp2_with fail
            go_ret
            exact ⟨by rw [hfin.out]; rfl, hbel⟩
          · have d1 := le_f (a := n) (b := 122) (by omega)
            go_wp2_with fail
            go_ret
            exact ⟨by rw [hfin.out]; rfl, hbel⟩
      · have hk0' : ((k : Int) == 0) = false := beq_eq_false_iff_ne.2 (by omega)
        have hk0n : (k == 0) = false := beq_eq_false_iff_ne.2 hk0
        rw [if_neg hk0] at hS
        clear hk0
        by_cases ha : (97 ≤ n ∧ n ≤ 122) ∨ n = 45 ∨ (48 ≤ n ∧ n ≤ 57)
        · have hn1 := Lib.hid (show nmGo (s.data.toList.take (k + 1)) = true by rw [hS.out]; exact decide_eq_true ha)
          clear hS hcl
          rcases ha with ⟨h1, h2⟩ | rfl | ⟨h1, h2⟩
          · go_wp2_with fail
            go_round
            case rel => exact ⟨k + 1, hlt, by go_num, hn1⟩
            case measure => simp [intOf]; omega
          · go_wp2_with fail
            go_round
            case rel => exact ⟨k + 1, hlt, by go_num, hn1⟩
            case measure => simp [intOf]; omega
          · obtain ⟨h45, h45'⟩ := bne_nat n 45 (by omega)
            go_wp2_with fail
            go_round
            case rel => exact ⟨k + 1, hlt, by go_num, hn1⟩
            case measure => simp [intOf]; omega
        · have hfin := Lib.hid (hfl.out (by rw [hS.out]; exact decide_eq_false ha))
          have hcl : (n < 48 ∧ n ≠ 45) ∨ (57 < n ∧ n < 97) ∨ 122 < n := by omega
          obtain ⟨h45, h45'⟩ := bne_nat n 45 (by omega)
          clear ha hS
          rcases hcl with ⟨h1, _⟩ | ⟨h1, h2⟩ | h1
          · have d1 := le_f (a := 97) (b := n) (by omega)
            have d2 := lt_t (a := n) (b := 48) (by omega)
            go_wp2_with fail
            go_ret
            exact ⟨by rw [hfin.out]; rfl, hbel⟩
          · have d1 := le_f (a := 97) (b := n) (by omega)
            have d2 := lt_f (a := n) (b := 48) (by omega)
            have d3 := lt_t (a := 57) (b := n) (by omega)
            go_wp2_with fail
            go_ret
            exact ⟨by rw [hfin.out]; rfl, hbel⟩
          · have d1 := le_t (a := 97) (b := n) (by omega)
            have d4 := le_f (a := n) (b := 122) (by omega)
            have d2 := lt_f (a := n) (b := 48) (by omega)
            have d3 := lt_t (a := 57) (b := n) (by omega)
            go_wp2_with fail
            go_ret
            exact ⟨by rw [hfin.out]; rfl, hbel⟩
    · have hlt' : decide ((k : Int) < s.size) = false := by simp; omega
      have hltn : decide (k < s.size) = false := decide_eq_false hlt
      obtain rfl : k = s.size := by omega
      have hfin := Lib.hid (nameB_fin s hall.out)
      by_cases h1 : (1 : Int) ≤ s.size
      · have d1 := Lib.hid (le_t h1)
        go_wp2_with fail
        go_ret
        refine ⟨ret_bool ?_, hbel⟩
        rw [hfin.out, d1.out, Bool.true_and]
      · have d1 := Lib.hid (le_f (a := 1) (b := s.size) (by omega))
        have h2 : (s.size : Int) < 1 := by omega
        clear h1
        go_wp2_with fail
        go_ret
        refine ⟨ret_bool ?_, hbel⟩
        rw [hfin.out, d1.out, Bool.false_and]

set_option maxHeartbeats 1000000 in
theorem RName_any (s : ByteArray) (hs : s.size ≤ 1000000) (w : World) : Calls Tryd.prog 22 #[.string s] w fun e w' => e = .returned (.bool (nameB s.data.toList)) ∧ w = w' := by
  go_enter Tryd.func22, Tryd.ntmps22
  go_wp2_with fail
  go_loop [3] (fun i => ∃ k : Nat, k ≤ s.size ∧ i = .int .i64 k ∧ Hid (nmGo (s.data.toList.take k) = true)) (fun i => s.size - (intOf i).toNat)
  case atStart => exact ⟨0, Nat.zero_le _, rfl, Lib.hid rfl⟩
  case round =>
    obtain ⟨k, hk, rfl, hall⟩ := hrel
    by_cases hlt : k < s.size
    · have hlt' : decide ((k : Int) < s.size) = true := by simp; omega
      have hltn : decide (k < s.size) = true := decide_eq_true hlt
      have hsn := nmGo_take s k hlt
      rw [hall.out, Bool.true_and, letter_nat, cont_nat] at hsn
      have hfl := Lib.hid (nmGo_false s (k + 1))
      have hn := UInt8.toNat_lt s[k]
      obtain ⟨n, hne⟩ : ∃ n, s[k].toNat = n := ⟨_, rfl⟩
      rw [hne] at hsn hn
      have hS := Lib.hid hsn
      clear hsn
      by_cases hk0 : k = 0
      · have hk0' : ((k : Int) == 0) = true := by simp [hk0]
        have hk0n : (k == 0) = true := by simp [hk0]
        rw [if_pos hk0] at hS
        have hk0h := Lib.hid hk0
        clear hk0
        by_cases hl : 97 ≤ n ∧ n ≤ 122
        · have hl2 := Lib.hid hl
          obtain ⟨hl0, hl1⟩ := hl
          go_wp2_with fail
          go_round
          case rel => exact ⟨k + 1, hlt, by go_num, Lib.hid (by rw [hS.out]; exact decide_eq_true hl2.out)⟩
          case measure => simp [intOf]; omega
        · have hfin := Lib.hid (hfl.out (by rw [hS.out]; exact decide_eq_false (by omega)))
          have hcl : n < 97 ∨ 122 < n := by omega
          rcases hcl with hcl | hcl
          · have d1 := le_f (a := 97) (b := n) (by omega)
            go_wp2_with fail
            go_ret
            exact ⟨by rw [hfin.out]; rfl, rfl⟩
          · have d1 := le_f (a := n) (b := 122) (by omega)
            go_wp2_with fail
            go_ret
            exact ⟨by rw [hfin.out]; rfl, rfl⟩
      · have hk0' : ((k : Int) == 0) = false := beq_eq_false_iff_ne.2 (by omega)
        have hk0n : (k == 0) = false := beq_eq_false_iff_ne.2 hk0
        rw [if_neg hk0] at hS
        clear hk0
        by_cases ha : (97 ≤ n ∧ n ≤ 122) ∨ n = 45 ∨ (48 ≤ n ∧ n ≤ 57)
        · have hn1 := Lib.hid (show nmGo (s.data.toList.take (k + 1)) = true by rw [hS.out]; exact decide_eq_true ha)
          clear hS
          rcases ha with ⟨h1, h2⟩ | h45 | ⟨h1, h2⟩
          · go_wp2_with fail
            go_round
            case rel => exact ⟨k + 1, hlt, by go_num, hn1⟩
            case measure => simp [intOf]; omega
          · rw [h45] at hne
            go_wp2_with fail
            go_round
            case rel => exact ⟨k + 1, hlt, by go_num, hn1⟩
            case measure => simp [intOf]; omega
          · obtain ⟨h45, h45'⟩ := bne_nat n 45 (by omega)
            have d2 := lt_f (a := n) (b := 48) (by omega)
            have d3 := lt_f (a := 57) (b := n) (by omega)
            go_wp2_with fail
            go_round
            case rel => exact ⟨k + 1, hlt, by go_num, hn1⟩
            case measure => simp [intOf]; omega
        · have hfin := Lib.hid (hfl.out (by rw [hS.out]; exact decide_eq_false ha))
          have hcl : (n < 48 ∧ n ≠ 45) ∨ (57 < n ∧ n < 97) ∨ 122 < n := by omega
          obtain ⟨h45, h45'⟩ := bne_nat n 45 (by omega)
          clear ha hS
          rcases hcl with ⟨h1, _⟩ | ⟨h1, h2⟩ | h1
          · have d1 := le_f (a := 97) (b := n) (by omega)
            have d2 := lt_t (a := n) (b := 48) (by omega)
            go_wp2_with fail
            go_ret
            exact ⟨by rw [hfin.out]; rfl, rfl⟩
          · have d1 := le_f (a := 97) (b := n) (by omega)
            have d2 := lt_f (a := n) (b := 48) (by omega)
            have d3 := lt_t (a := 57) (b := n) (by omega)
            go_wp2_with fail
            go_ret
            exact ⟨by rw [hfin.out]; rfl, rfl⟩
          · have d1 := le_t (a := 97) (b := n) (by omega)
            have d4 := le_f (a := n) (b := 122) (by omega)
            have d2 := lt_f (a := n) (b := 48) (by omega)
            have d3 := lt_t (a := 57) (b := n) (by omega)
            go_wp2_with fail
            go_ret
            exact ⟨by rw [hfin.out]; rfl, rfl⟩
    · have hlt' : decide ((k : Int) < s.size) = false := by simp; omega
      have hltn : decide (k < s.size) = false := decide_eq_false hlt
      obtain rfl : k = s.size := by omega
      have hfin := Lib.hid (nameB_fin s hall.out)
      by_cases h0 : s.size = 0
      · obtain ⟨e1, e2⟩ := str_nil s h0
        have d1 := Lib.hid (le_f (a := 1) (b := s.size) (by omega))
        go_wp2_with fail
        go_ret
        refine ⟨ret_bool ?_, rfl⟩
        rw [hfin.out, d1.out, Bool.false_and]
      · obtain ⟨e1, e2⟩ := str_cons s (by omega)
        have d1 := Lib.hid (le_t (a := 1) (b := s.size) (by omega))
        go_wp2_with fail
        go_ret
        refine ⟨ret_bool ?_, rfl⟩
        rw [hfin.out, d1.out, Bool.true_and]
end Go.Proofs.YtbcofimmfbmkoaaDoor
