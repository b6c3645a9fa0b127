/- Chapter 3: the walks of the statements' functions WordsRows and WordsQuotes. -/
import Derived.Test.YtbcofimmfbmkoaaDoorWlawE
import Derived.Test.YtbcofimmfbmkoaaDoorWordsY
import Derived.Test.YtbcofimmfbmkoaaDoorWordsC
namespace Go.Proofs.YtbcofimmfbmkoaaDoor
open Go.RowKit Go.Shelf Words3

theorem rowsGo_bound : ∀ (ls : List (List UInt8)) (n : Nat) (acc : List Rw), (∀ r ∈ acc, r.words.length ≤ 1000) → (rowsGo n ls acc).rows.length ≤ acc.length + ls.length ∧ ∀ r ∈ (rowsGo n ls acc).rows, r.words.length ≤ 1000
  | [], n, acc, h => ⟨Nat.le_refl _, h⟩
  | l :: ls, n, acc, h => by
    unfold rowsGo
    split
    · exact ⟨Nat.zero_le _, fun r hr => by cases hr⟩
    · rename_i h1
      split
      · exact ⟨Nat.zero_le _, fun r hr => by cases hr⟩
      · have hl := rowF_length l
        have h2 : (addRow n (rowF l).1 acc).length ≤ acc.length + 1 ∧ ∀ r ∈ addRow n (rowF l).1 acc, r.words.length ≤ 1000 := by
          unfold addRow
          split
          · exact ⟨Nat.le_succ _, h⟩
          · refine ⟨by simp, fun r hr => ?_⟩
            rcases List.mem_append.1 hr with hr | hr
            · exact h r hr
            · rw [List.mem_singleton] at hr
              rw [hr]
              show ((rowF l).1.map (shiftW n)).length ≤ 1000
              rw [List.length_map]; omega
        obtain ⟨e1, e2⟩ := rowsGo_bound ls (n + l.length + 1) _ h2.2
        refine ⟨?_, e2⟩
        rw [List.length_cons]
        have := h2.1
        omega
theorem length_le_sum : ∀ (ls : List (List UInt8)), ls.length ≤ (ls.map fun l => l.length + 1).sum
  | [] => Nat.le_refl _
  | l :: ls => by
    have := length_le_sum ls
    rw [List.length_cons, List.map_cons, List.sum_cons]; omega
theorem rowsF_bound (s : List UInt8) : (rowsF s).rows.length ≤ 20001 ∧ ∀ r ∈ (rowsF s).rows, r.words.length ≤ 1000 := by
  unfold rowsF
  split
  · exact ⟨Nat.zero_le _, fun r hr => by cases hr⟩
  · rename_i h
    obtain ⟨h1, h2⟩ := rowsGo_bound (linesF s) 0 [] (fun r hr => by cases hr)
    refine ⟨?_, h2⟩
    have h3 := length_le_sum (linesF s)
    have h4 := linesGo_length (s.length + 1) s (Nat.lt_succ_self _)
    unfold linesF at *
    simp only [List.length_nil] at h1
    omega

set_option maxHeartbeats 10000000 in
set_option maxRecDepth 100000 in
theorem lawRows_any (s : ByteArray) (W : World) : Calls Tryd.prog 3 #[.string s] W fun e w' => e = .returned (.bool true) ∧ Below W.heap.size W w' := by
  have HA := Lib.hid (fun W => awake_any W)
  by_cases c1 : 3000 < s.size ∧ s.size ≤ 20000
  · have d1 := lt_t (a := 3000) (b := (s.size : Int)) (by omega)
    have d2 := le_t (a := (s.size : Int)) (b := 20000) (by omega)
    go_enter Tryd.func3, Tryd.ntmps3
    go_wp2_with fail
    refine (HA.out _).mono ?_
    rintro e w1 ⟨rfl, hb⟩
    go_wp2_with fail
    go_ret
    exact ⟨rfl, hb⟩
  · by_cases c2 : 20100 < s.size
    · have d1 := lt_t (a := 3000) (b := (s.size : Int)) (by omega)
      have d2 := le_f (a := (s.size : Int)) (b := 20000) (by omega)
      have d3 := lt_t (a := 20100) (b := (s.size : Int)) (by omega)
      go_enter Tryd.func3, Tryd.ntmps3
      go_wp2_with fail
      refine (HA.out _).mono ?_
      rintro e w1 ⟨rfl, hb⟩
      go_wp2_with fail
      go_ret
      exact ⟨rfl, hb⟩
    · have d3 := lt_f (a := 20100) (b := (s.size : Int)) (by omega)
      have HR1 := Lib.hid (fun W => Rows_any s W)
      have HR2 := Lib.hid (fun W => RRows_any s W)
      obtain ⟨e1, e2⟩ := rowsF_bound s.data.toList
      generalize rowsF s.data.toList = R at *
      obtain ⟨rs, er, pl⟩ := R
      dsimp only at e1 e2
      have HE := Lib.hid (eq_fault er er pl pl)
      rw [show (((er : Int) == (er : Int)) && ((pl : Int) == (pl : Int))) = true by simp] at HE
      have hcase : (3000 < s.size ∧ 20000 < s.size) ∨ s.size ≤ 3000 := by omega
      rcases hcase with ⟨c3, c4⟩ | c3
      all_goals
        first
        | (have d1 := lt_t (a := 3000) (b := (s.size : Int)) (by omega)
           have d2 := le_f (a := (s.size : Int)) (b := 20000) (by omega))
        | (have d1 := lt_f (a := 3000) (b := (s.size : Int)) (by omega))
      all_goals
        go_enter Tryd.func3, Tryd.ntmps3
        go_wp2_with fail
        refine (HR1.out _).mono ?_
        rintro e w1 ⟨v1, rfl, h1, b1⟩
        obtain ⟨ad1, cp1, rfl⟩ := h1.slice
        have k1 := World.alloc_heap_new w1 (.cells #[.int .i64 (er : Int), .int .i64 (pl : Int)] 26)
        have a1 := Go.Joins.below_alloc1 w1 (.cells #[.int .i64 (er : Int), .int .i64 (pl : Int)] 26)
        have K1 := Lib.hid (And.intro k1 (And.intro (h1.at_.below a1) (b1.trans (a1.mono b1.size))))
        clear k1 a1 b1 h1
        go_wp2_with fail
        refine (HR2.out _).mono ?_
        rintro e w2 ⟨v2, rfl, h2, b2⟩
        obtain ⟨ad2, cp2, rfl⟩ := h2.slice
        have k2 := World.alloc_heap_new w2 (.cells #[.int .i64 (er : Int), .int .i64 (pl : Int)] 26)
        have a2 := Go.Joins.below_alloc1 w2 (.cells #[.int .i64 (er : Int), .int .i64 (pl : Int)] 26)
        have b3 := b2.trans (a2.mono b2.size)
        have K2 := Lib.hid (And.intro (heap_below K1.out.1 b3) (And.intro (K1.out.2.1.below b3) (And.intro (K1.out.2.2.trans (b3.mono K1.out.2.2.size)) (And.intro k2 (h2.at_.below a2)))))
        clear k2 a2 b2 b3 h2 K1
        go_wp2_with fail
        refine (same_true _ _ _ rs rs true K2.out.2.1 K2.out.2.2.2.2 (Agree.refl _ _) (by omega) (fun r hr => Nat.le_trans (e2 r hr) (by decide))).mono ?_
        rintro e w3 ⟨rfl, b4⟩
        have K3 := Lib.hid (And.intro (heap_below K2.out.1 b4) (And.intro (heap_below K2.out.2.2.2.1 b4) (K2.out.2.2.1.trans (b4.mono K2.out.2.2.1.size))))
        clear b4 K2
        have x0 := cell2_0 K3.out.1
        have x1 := cell2_1 K3.out.1
        have y0 := cell2_0 K3.out.2.1
        have y1 := cell2_1 K3.out.2.1
        have E := HE.out
        go_wp2_with fail
        refine (HA.out _).mono ?_
        rintro e w4 ⟨rfl, b5⟩
        have t5 := K3.out.2.2.trans (b5.mono K3.out.2.2.size)
        go_wp2_with fail
        go_ret
        exact ⟨rfl, t5⟩
set_option maxHeartbeats 10000000 in
set_option maxRecDepth 100000 in
theorem lawQuotes_any (s : ByteArray) (W : World) : Calls Tryd.prog 4 #[.string s] W fun e w' => e = .returned (.bool true) ∧ Below W.heap.size W w' := by
  have HA := Lib.hid (fun W => awake_any W)
  by_cases c1 : 3000 < s.size
  · have d1 := lt_t (a := 3000) (b := (s.size : Int)) (by omega)
    go_enter Tryd.func4, Tryd.ntmps4
    go_wp2_with fail
    refine (HA.out _).mono ?_
    rintro e w1 ⟨rfl, hb⟩
    go_wp2_with fail
    go_ret
    exact ⟨rfl, hb⟩
  · have d1 := lt_f (a := 3000) (b := (s.size : Int)) (by omega)
    have HU := Lib.hid (fun W => Unquote_any s (by omega) W)
    have HRU := Lib.hid (fun W => RUnquote_any s (by omega) W)
    have HN := Lib.hid (fun W => Number_any s (by omega) W)
    have HRN := Lib.hid (fun W => RNumber_any s (by omega) W)
    have HQ := Lib.hid (fun W => Quote_any s (by omega) W)
    have HRQ := Lib.hid (fun W => RQuote_any s (by omega) W)
    have HM := Lib.hid (fun W => Name_any s (by omega) W)
    have HRM := Lib.hid (fun W => RName_any s (by omega) W)
    obtain ⟨x, b, hv⟩ : ∃ (x : Int) (b : Bool), numV s.data.toList = .tuple #[.int .u64 x, .bool b] := by
      unfold numV
      cases numF s.data.toList with
      | none => exact ⟨_, _, rfl⟩
      | some n => exact ⟨_, _, rfl⟩
    rw [hv] at HN HRN
    clear hv
    generalize unquoteF s.data.toList = U at *
    obtain ⟨ut, ue⟩ := U
    generalize quoteF s.data.toList = Q at *
    generalize nameB s.data.toList = N at *
    go_enter Tryd.func4, Tryd.ntmps4
    go_wp2_with fail
    refine (HU.out _).mono ?_
    rintro e w1 ⟨rfl, b1⟩
    go_wp2_with fail
    refine (HRU.out _).mono ?_
    rintro e w2 ⟨rfl, b2⟩
    have t2 := andThen b1 b2
    clear b1 b2
    go_wp2_with fail
    refine (HN.out _).mono ?_
    rintro e w3 ⟨rfl, b3⟩
    have t3 := andThen t2 b3
    clear t2 b3
    go_wp2_with fail
    refine (HRN.out _).mono ?_
    rintro e w4 ⟨rfl, rfl⟩
    go_wp2_with fail
    refine (HQ.out _).mono ?_
    rintro e w5 ⟨rfl, b5⟩
    have t5 := andThen t3 b5
    clear t3 b5
    go_wp2_with fail
    refine (HRQ.out _).mono ?_
    rintro e w6 ⟨rfl, b6⟩
    have t6 := andThen t5 b6
    clear t5 b6
    go_wp2_with fail
    refine (HM.out _).mono ?_
    rintro e w7 ⟨rfl, b7⟩
    have t7 := andThen t6 b7
    clear t6 b7
    go_wp2_with fail
    refine (HRM.out _).mono ?_
    rintro e w8 ⟨rfl, rfl⟩
    go_wp2_with fail
    refine (HA.out _).mono ?_
    rintro e w9 ⟨rfl, b9⟩
    have t9 := andThen t7 b9
    go_wp2_with fail
    go_ret
    exact ⟨rfl, t9⟩
end Go.Proofs.YtbcofimmfbmkoaaDoor
