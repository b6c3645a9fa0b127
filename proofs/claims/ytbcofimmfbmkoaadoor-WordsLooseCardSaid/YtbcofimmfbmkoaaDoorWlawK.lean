/- Chapter 3: the walk of WordsKnown (printed by genknown03.py). -/
import Derived.Test.YtbcofimmfbmkoaaDoorWlawF
import Derived.Test.YtbcofimmfbmkoaaDoorWlawG
namespace Go.Proofs.YtbcofimmfbmkoaaDoor
open Go.RowKit Go.Shelf Words3

def knW00 : List Wd := [⟨0, [], [97]⟩]
def knW01 : List Wd := [⟨3, [], [98]⟩]
def knR0 : List Rw := [⟨0, knW00⟩, ⟨2, knW01⟩]
def knW10 : List Wd := [⟨0, [], [97, 35, 98]⟩]
def knR1 : List Rw := [⟨0, knW10⟩]
def knW20 : List Wd := [⟨0, [], []⟩, ⟨3, [107], []⟩]
def knR2 : List Rw := [⟨0, knW20⟩]
def knV : List Wd := [⟨0, [], [97]⟩, ⟨0, [107], [49]⟩]
def knX : List Wd := [⟨0, [107], []⟩, ⟨0, [107], []⟩]
theorem kn_r0 : rowsF [97, 10, 32, 98] = ⟨knR0, 0, 0⟩ := by kernel_rfl
theorem kn_r1 : rowsF [97, 35, 98] = ⟨knR1, 0, 0⟩ := by kernel_rfl
theorem kn_r2 : rowsF [34, 34, 32, 107, 61, 34, 34] = ⟨knR2, 0, 0⟩ := by kernel_rfl
theorem kn_f0 : rowsF [97, 34, 98, 34] = ⟨[], 3, 0⟩ := by kernel_rfl
theorem kn_f1 : rowsF [120, 32, 34, 97, 34, 98] = ⟨[], 3, 2⟩ := by kernel_rfl
theorem kn_f2 : rowsF [107, 61] = ⟨[], 3, 0⟩ := by kernel_rfl
theorem kn_f3 : rowsF [61, 118] = ⟨[], 3, 0⟩ := by kernel_rfl
theorem kn_f4 : rowsF [107, 61, 35, 118] = ⟨[], 3, 0⟩ := by kernel_rfl
theorem kn_f5 : rowsF [97, 61, 98, 61, 99] = ⟨[], 3, 0⟩ := by kernel_rfl
theorem kn_f6 : rowsF [34, 92, 120, 52, 71, 34] = ⟨[], 3, 0⟩ := by kernel_rfl
theorem kn_f7 : rowsF [75, 61, 49] = ⟨[], 3, 0⟩ := by kernel_rfl
theorem kn_q0 : quoteF [35, 97] = [34, 35, 97, 34] := by kernel_rfl
theorem kn_q1 : quoteF [] = [34, 34] := by kernel_rfl
theorem kn_q2 : quoteF [97, 61, 98] = [34, 97, 61, 98, 34] := by kernel_rfl
theorem kn_q3 : quoteF [10, 34, 255] = [34, 92, 110, 92, 34, 92, 120, 102, 102, 34] := by kernel_rfl
theorem kn_u0 : unquoteF [34, 92, 120, 70, 70, 34] = ⟨[], 3⟩ := by kernel_rfl
theorem kn_u1 : unquoteF [35] = ⟨[], 3⟩ := by kernel_rfl
theorem kn_u2 : unquoteF [97, 32, 98] = ⟨[], 3⟩ := by kernel_rfl
theorem kn_n0 : numV [49, 49, 50, 53, 56, 57, 57, 57, 48, 54, 56, 52, 50, 54, 50, 52] = .tuple #[.int .u64 1125899906842624, .bool true] := by kernel_rfl
theorem kn_n1 : numV [49, 49, 50, 53, 56, 57, 57, 57, 48, 54, 56, 52, 50, 54, 50, 53] = .tuple #[.int .u64 0, .bool false] := by kernel_rfl
theorem kn_n2 : numV [48, 48, 55] = .tuple #[.int .u64 0, .bool false] := by kernel_rfl
theorem kn_v0 : valueF knV [107] = ⟨[49], 0⟩ := by kernel_rfl
theorem kn_v1 : valueF knX [107] = ⟨[], 9⟩ := by kernel_rfl
theorem kn_v2 : valueF knV [106] = ⟨[], 8⟩ := by kernel_rfl
theorem kn_v3 : valueF knV [75] = ⟨[], 6⟩ := by kernel_rfl
theorem kn_m0 : nameB [97, 45, 49] = true := by kernel_rfl
theorem kn_m1 : nameB [45, 97] = false := by kernel_rfl

set_option maxHeartbeats 40000000 in
set_option maxRecDepth 100000 in
theorem known_any (W : World) : Calls Tryd.prog 6 #[] W fun e w' => e = .returned (.bool true) ∧ Below W.heap.size W w' := by
  have HA := Lib.hid (fun W => awake_any W)
  have HW := Lib.hid (fun n v W hv => row_any n v W hv)
  have HR0 := Lib.hid (fun W => by
    have h := Rows_any ⟨#[97, 10, 32, 98]⟩ W
    rw [show (⟨#[97, 10, 32, 98]⟩ : ByteArray).data.toList = [97, 10, 32, 98] from rfl, kn_r0] at h
    exact h)
  have HR1 := Lib.hid (fun W => by
    have h := Rows_any ⟨#[97, 35, 98]⟩ W
    rw [show (⟨#[97, 35, 98]⟩ : ByteArray).data.toList = [97, 35, 98] from rfl, kn_r1] at h
    exact h)
  have HR2 := Lib.hid (fun W => by
    have h := Rows_any ⟨#[34, 34, 32, 107, 61, 34, 34]⟩ W
    rw [show (⟨#[34, 34, 32, 107, 61, 34, 34]⟩ : ByteArray).data.toList = [34, 34, 32, 107, 61, 34, 34] from rfl, kn_r2] at h
    exact h)
  have HF0 := Lib.hid (fun W => fails_true ⟨#[97, 34, 98, 34]⟩ 0 kn_f0 W)
  have HF1 := Lib.hid (fun W => fails_true ⟨#[120, 32, 34, 97, 34, 98]⟩ 2 kn_f1 W)
  have HF2 := Lib.hid (fun W => fails_true ⟨#[107, 61]⟩ 0 kn_f2 W)
  have HF3 := Lib.hid (fun W => fails_true ⟨#[61, 118]⟩ 0 kn_f3 W)
  have HF4 := Lib.hid (fun W => fails_true ⟨#[107, 61, 35, 118]⟩ 0 kn_f4 W)
  have HF5 := Lib.hid (fun W => fails_true ⟨#[97, 61, 98, 61, 99]⟩ 0 kn_f5 W)
  have HF6 := Lib.hid (fun W => fails_true ⟨#[34, 92, 120, 52, 71, 34]⟩ 0 kn_f6 W)
  have HF7 := Lib.hid (fun W => fails_true ⟨#[75, 61, 49]⟩ 0 kn_f7 W)
  have HQ0 := Lib.hid (fun W => by
    have h := Quote_any ⟨#[35, 97]⟩ (by decide) W
    rw [show (⟨#[35, 97]⟩ : ByteArray).data.toList = [35, 97] from rfl, kn_q0] at h
    exact h)
  have HQ1 := Lib.hid (fun W => by
    have h := Quote_any ⟨#[]⟩ (by decide) W
    rw [show (⟨#[]⟩ : ByteArray).data.toList = [] from rfl, kn_q1] at h
    exact h)
  have HQ2 := Lib.hid (fun W => by
    have h := Quote_any ⟨#[97, 61, 98]⟩ (by decide) W
    rw [show (⟨#[97, 61, 98]⟩ : ByteArray).data.toList = [97, 61, 98] from rfl, kn_q2] at h
    exact h)
  have HQ3 := Lib.hid (fun W => by
    have h := Quote_any ⟨#[10, 34, 255]⟩ (by decide) W
    rw [show (⟨#[10, 34, 255]⟩ : ByteArray).data.toList = [10, 34, 255] from rfl, kn_q3] at h
    exact h)
  have HU0 := Lib.hid (fun W => by
    have h := Unquote_any ⟨#[34, 92, 120, 70, 70, 34]⟩ (by decide) W
    rw [show (⟨#[34, 92, 120, 70, 70, 34]⟩ : ByteArray).data.toList = [34, 92, 120, 70, 70, 34] from rfl, kn_u0] at h
    exact h)
  have HU1 := Lib.hid (fun W => by
    have h := Unquote_any ⟨#[35]⟩ (by decide) W
    rw [show (⟨#[35]⟩ : ByteArray).data.toList = [35] from rfl, kn_u1] at h
    exact h)
  have HU2 := Lib.hid (fun W => by
    have h := Unquote_any ⟨#[97, 32, 98]⟩ (by decide) W
    rw [show (⟨#[97, 32, 98]⟩ : ByteArray).data.toList = [97, 32, 98] from rfl, kn_u2] at h
    exact h)
  have HN0 := Lib.hid (fun W => by
    have h := Number_any ⟨#[49, 49, 50, 53, 56, 57, 57, 57, 48, 54, 56, 52, 50, 54, 50, 52]⟩ (by decide) W
    rw [show (⟨#[49, 49, 50, 53, 56, 57, 57, 57, 48, 54, 56, 52, 50, 54, 50, 52]⟩ : ByteArray).data.toList = [49, 49, 50, 53, 56, 57, 57, 57, 48, 54, 56, 52, 50, 54, 50, 52] from rfl, kn_n0] at h
    exact h)
  have HN1 := Lib.hid (fun W => by
    have h := Number_any ⟨#[49, 49, 50, 53, 56, 57, 57, 57, 48, 54, 56, 52, 50, 54, 50, 53]⟩ (by decide) W
    rw [show (⟨#[49, 49, 50, 53, 56, 57, 57, 57, 48, 54, 56, 52, 50, 54, 50, 53]⟩ : ByteArray).data.toList = [49, 49, 50, 53, 56, 57, 57, 57, 48, 54, 56, 52, 50, 54, 50, 53] from rfl, kn_n1] at h
    exact h)
  have HN2 := Lib.hid (fun W => by
    have h := Number_any ⟨#[48, 48, 55]⟩ (by decide) W
    rw [show (⟨#[48, 48, 55]⟩ : ByteArray).data.toList = [48, 48, 55] from rfl, kn_n2] at h
    exact h)
  have HM0 := Lib.hid (fun W => by
    have h := Name_any ⟨#[97, 45, 49]⟩ (by decide) W
    rw [show (⟨#[97, 45, 49]⟩ : ByteArray).data.toList = [97, 45, 49] from rfl, kn_m0] at h
    exact h)
  have HM1 := Lib.hid (fun W => by
    have h := Name_any ⟨#[45, 97]⟩ (by decide) W
    rw [show (⟨#[45, 97]⟩ : ByteArray).data.toList = [45, 97] from rfl, kn_m1] at h
    exact h)
  go_enter Tryd.func6, Tryd.ntmps6
  go_wp2_with fail
  refine (HR0.out _).mono ?_
  rintro e w1 ⟨v0, rfl, R, B⟩
  obtain ⟨ad0, cp0, rfl⟩ := R.slice
  have T_1 := Lib.hid B
  clear B 
  have R0_2 := Lib.hid (R.at_)
  clear R
  have Q := World.alloc_heap_new w1 (.cells #[.int .i64 0, .int .i64 0] 26)
  have B := Go.Joins.below_alloc1 w1 (.cells #[.int .i64 0, .int .i64 0] 26)
  have R0_3 := Lib.hid (R0_2.out.below B)
  have T_3 := Lib.hid (andThen T_1.out B)
  clear B R0_2 T_1
  have FB0_4 := Lib.hid Q
  clear Q
  go_wp2_with fail
  refine (HR1.out _).mono ?_
  rintro e w2 ⟨v1, rfl, R, B⟩
  obtain ⟨ad1, cp1, rfl⟩ := R.slice
  have R0_5 := Lib.hid (R0_3.out.below B)
  have FB0_5 := Lib.hid (heap_below FB0_4.out B)
  have T_5 := Lib.hid (andThen T_3.out B)
  clear B R0_3 FB0_4 T_3
  have R1_6 := Lib.hid (R.at_)
  clear R
  have Q := World.alloc_heap_new w2 (.cells #[.int .i64 0, .int .i64 0] 26)
  have B := Go.Joins.below_alloc1 w2 (.cells #[.int .i64 0, .int .i64 0] 26)
  have R0_7 := Lib.hid (R0_5.out.below B)
  have FB0_7 := Lib.hid (heap_below FB0_5.out B)
  have R1_7 := Lib.hid (R1_6.out.below B)
  have T_7 := Lib.hid (andThen T_5.out B)
  clear B R0_5 FB0_5 R1_6 T_5
  have FB1_8 := Lib.hid Q
  clear Q
  go_wp2_with fail
  refine (HR2.out _).mono ?_
  rintro e w3 ⟨v2, rfl, R, B⟩
  obtain ⟨ad2, cp2, rfl⟩ := R.slice
  have R0_9 := Lib.hid (R0_7.out.below B)
  have FB0_9 := Lib.hid (heap_below FB0_7.out B)
  have R1_9 := Lib.hid (R1_7.out.below B)
  have FB1_9 := Lib.hid (heap_below FB1_8.out B)
  have T_9 := Lib.hid (andThen T_7.out B)
  clear B R0_7 FB0_7 R1_7 FB1_8 T_7
  have R2_10 := Lib.hid (R.at_)
  clear R
  have Q := World.alloc_heap_new w3 (.cells #[.int .i64 0, .int .i64 0] 26)
  have B := Go.Joins.below_alloc1 w3 (.cells #[.int .i64 0, .int .i64 0] 26)
  have R0_11 := Lib.hid (R0_9.out.below B)
  have FB0_11 := Lib.hid (heap_below FB0_9.out B)
  have R1_11 := Lib.hid (R1_9.out.below B)
  have FB1_11 := Lib.hid (heap_below FB1_9.out B)
  have R2_11 := Lib.hid (R2_10.out.below B)
  have T_11 := Lib.hid (andThen T_9.out B)
  clear B R0_9 FB0_9 R1_9 FB1_9 R2_10 T_9
  have FB2_12 := Lib.hid Q
  clear Q
  have X0 := cell2_0 FB0_11.out
  have X1 := cell2_0 FB1_11.out
  have X2 := cell2_0 FB2_12.out
  have Q := World.alloc_heap_new (w3.alloc (.cells #[.int .i64 0, .int .i64 0] 26)) (.cells (wcells knW00).toArray 46)
  rw [World.size_alloc] at Q
  have B := Go.Joins.below_alloc1 (w3.alloc (.cells #[.int .i64 0, .int .i64 0] 26)) (.cells (wcells knW00).toArray 46)
  have R0_13 := Lib.hid (R0_11.out.below B)
  have FB0_13 := Lib.hid (heap_below FB0_11.out B)
  have R1_13 := Lib.hid (R1_11.out.below B)
  have FB1_13 := Lib.hid (heap_below FB1_11.out B)
  have R2_13 := Lib.hid (R2_11.out.below B)
  have FB2_13 := Lib.hid (heap_below FB2_12.out B)
  have T_13 := Lib.hid (andThen T_11.out B)
  clear B R0_11 FB0_11 R1_11 FB1_11 R2_11 FB2_12 T_11
  have WB_14 := Lib.hid Q
  clear Q
  have WW00_15 := Lib.hid (words_lit knW00 WB_14.out rfl)
  go_wp2_with fail
  refine (HW.out _ _ _ ⟨_, _, _, rfl⟩).mono ?_
  rintro e w4 ⟨rfl, B⟩
  have R0_16 := Lib.hid (R0_13.out.below B)
  have FB0_16 := Lib.hid (heap_below FB0_13.out B)
  have R1_16 := Lib.hid (R1_13.out.below B)
  have FB1_16 := Lib.hid (heap_below FB1_13.out B)
  have R2_16 := Lib.hid (R2_13.out.below B)
  have FB2_16 := Lib.hid (heap_below FB2_13.out B)
  have WW00_16 := Lib.hid (WordsAt.below WW00_15.out B)
  have T_16 := Lib.hid (andThen T_13.out B)
  clear B R0_13 FB0_13 R1_13 FB1_13 R2_13 FB2_13 WB_14 WW00_15 T_13
  have Q := World.alloc_heap_new w4 (.cells (wcells knW01).toArray 46)
  have B := Go.Joins.below_alloc1 w4 (.cells (wcells knW01).toArray 46)
  have R0_17 := Lib.hid (R0_16.out.below B)
  have FB0_17 := Lib.hid (heap_below FB0_16.out B)
  have R1_17 := Lib.hid (R1_16.out.below B)
  have FB1_17 := Lib.hid (heap_below FB1_16.out B)
  have R2_17 := Lib.hid (R2_16.out.below B)
  have FB2_17 := Lib.hid (heap_below FB2_16.out B)
  have WW00_17 := Lib.hid (WordsAt.below WW00_16.out B)
  have T_17 := Lib.hid (andThen T_16.out B)
  clear B R0_16 FB0_16 R1_16 FB1_16 R2_16 FB2_16 WW00_16 T_16
  have WB_18 := Lib.hid Q
  clear Q
  have WW01_19 := Lib.hid (words_lit knW01 WB_18.out rfl)
  go_wp2_with fail
  refine (HW.out _ _ _ ⟨_, _, _, rfl⟩).mono ?_
  rintro e w5 ⟨rfl, B⟩
  have R0_20 := Lib.hid (R0_17.out.below B)
  have FB0_20 := Lib.hid (heap_below FB0_17.out B)
  have R1_20 := Lib.hid (R1_17.out.below B)
  have FB1_20 := Lib.hid (heap_below FB1_17.out B)
  have R2_20 := Lib.hid (R2_17.out.below B)
  have FB2_20 := Lib.hid (heap_below FB2_17.out B)
  have WW00_20 := Lib.hid (WordsAt.below WW00_17.out B)
  have WW01_20 := Lib.hid (WordsAt.below WW01_19.out B)
  have T_20 := Lib.hid (andThen T_17.out B)
  clear B R0_17 FB0_17 R1_17 FB1_17 R2_17 FB2_17 WW00_17 WB_18 WW01_19 T_17
  have Q := World.alloc_heap_new w5 (.cells (rcells [.slice (some ⟨w3.heap.size + 1, 0, none⟩) 1 1, .slice (some ⟨w4.heap.size, 0, none⟩) 1 1] knR0).toArray 39)
  have B := Go.Joins.below_alloc1 w5 (.cells (rcells [.slice (some ⟨w3.heap.size + 1, 0, none⟩) 1 1, .slice (some ⟨w4.heap.size, 0, none⟩) 1 1] knR0).toArray 39)
  have R0_21 := Lib.hid (R0_20.out.below B)
  have FB0_21 := Lib.hid (heap_below FB0_20.out B)
  have R1_21 := Lib.hid (R1_20.out.below B)
  have FB1_21 := Lib.hid (heap_below FB1_20.out B)
  have R2_21 := Lib.hid (R2_20.out.below B)
  have FB2_21 := Lib.hid (heap_below FB2_20.out B)
  have WW00_21 := Lib.hid (WordsAt.below WW00_20.out B)
  have WW01_21 := Lib.hid (WordsAt.below WW01_20.out B)
  have T_21 := Lib.hid (andThen T_20.out B)
  clear B R0_20 FB0_20 R1_20 FB1_20 R2_20 FB2_20 WW00_20 WW01_20 T_20
  have RB_22 := Lib.hid Q
  clear Q
  have RL := rows_lit [.slice (some ⟨w3.heap.size + 1, 0, none⟩) 1 1, .slice (some ⟨w4.heap.size, 0, none⟩) 1 1] knR0 RB_22.out rfl rfl (by
    intro p hp
    simp only [knR0, List.zip_cons_cons, List.zip_nil_right, List.mem_cons, List.not_mem_nil, or_false] at hp
    rcases hp with rfl | rfl
    · exact WW00_21.out
    · exact WW01_21.out)
  go_wp2_with fail
  refine (same_true _ _ _ knR0 knR0 true R0_21.out RL (Agree.refl _ _) (by decide) (by decide)).mono ?_
  rintro e w6 ⟨rfl, B⟩
  clear RL
  have FB0_23 := Lib.hid (heap_below FB0_21.out B)
  have R1_23 := Lib.hid (R1_21.out.below B)
  have FB1_23 := Lib.hid (heap_below FB1_21.out B)
  have R2_23 := Lib.hid (R2_21.out.below B)
  have FB2_23 := Lib.hid (heap_below FB2_21.out B)
  have T_23 := Lib.hid (andThen T_21.out B)
  clear B R0_21 FB0_21 R1_21 FB1_21 R2_21 FB2_21 WW00_21 WW01_21 RB_22 T_21
  have Q := World.alloc_heap_new w6 (.cells (wcells knW10).toArray 46)
  have B := Go.Joins.below_alloc1 w6 (.cells (wcells knW10).toArray 46)
  have FB0_24 := Lib.hid (heap_below FB0_23.out B)
  have R1_24 := Lib.hid (R1_23.out.below B)
  have FB1_24 := Lib.hid (heap_below FB1_23.out B)
  have R2_24 := Lib.hid (R2_23.out.below B)
  have FB2_24 := Lib.hid (heap_below FB2_23.out B)
  have T_24 := Lib.hid (andThen T_23.out B)
  clear B FB0_23 R1_23 FB1_23 R2_23 FB2_23 T_23
  have WB_25 := Lib.hid Q
  clear Q
  have WW10_26 := Lib.hid (words_lit knW10 WB_25.out rfl)
  go_wp2_with fail
  refine (HW.out _ _ _ ⟨_, _, _, rfl⟩).mono ?_
  rintro e w7 ⟨rfl, B⟩
  have FB0_27 := Lib.hid (heap_below FB0_24.out B)
  have R1_27 := Lib.hid (R1_24.out.below B)
  have FB1_27 := Lib.hid (heap_below FB1_24.out B)
  have R2_27 := Lib.hid (R2_24.out.below B)
  have FB2_27 := Lib.hid (heap_below FB2_24.out B)
  have WW10_27 := Lib.hid (WordsAt.below WW10_26.out B)
  have T_27 := Lib.hid (andThen T_24.out B)
  clear B FB0_24 R1_24 FB1_24 R2_24 FB2_24 WB_25 WW10_26 T_24
  have Q := World.alloc_heap_new w7 (.cells (rcells [.slice (some ⟨w6.heap.size, 0, none⟩) 1 1] knR1).toArray 39)
  have B := Go.Joins.below_alloc1 w7 (.cells (rcells [.slice (some ⟨w6.heap.size, 0, none⟩) 1 1] knR1).toArray 39)
  have FB0_28 := Lib.hid (heap_below FB0_27.out B)
  have R1_28 := Lib.hid (R1_27.out.below B)
  have FB1_28 := Lib.hid (heap_below FB1_27.out B)
  have R2_28 := Lib.hid (R2_27.out.below B)
  have FB2_28 := Lib.hid (heap_below FB2_27.out B)
  have WW10_28 := Lib.hid (WordsAt.below WW10_27.out B)
  have T_28 := Lib.hid (andThen T_27.out B)
  clear B FB0_27 R1_27 FB1_27 R2_27 FB2_27 WW10_27 T_27
  have RB_29 := Lib.hid Q
  clear Q
  have RL := rows_lit [.slice (some ⟨w6.heap.size, 0, none⟩) 1 1] knR1 RB_29.out rfl rfl (by
    intro p hp
    simp only [knR1, List.zip_cons_cons, List.zip_nil_right, List.mem_cons, List.not_mem_nil, or_false] at hp
    rcases hp with rfl
    · exact WW10_28.out)
  go_wp2_with fail
  refine (same_true _ _ _ knR1 knR1 true R1_28.out RL (Agree.refl _ _) (by decide) (by decide)).mono ?_
  rintro e w8 ⟨rfl, B⟩
  clear RL
  have FB0_30 := Lib.hid (heap_below FB0_28.out B)
  have FB1_30 := Lib.hid (heap_below FB1_28.out B)
  have R2_30 := Lib.hid (R2_28.out.below B)
  have FB2_30 := Lib.hid (heap_below FB2_28.out B)
  have T_30 := Lib.hid (andThen T_28.out B)
  clear B FB0_28 R1_28 FB1_28 R2_28 FB2_28 WW10_28 RB_29 T_28
  have Q := World.alloc_heap_new w8 (.cells (wcells knW20).toArray 46)
  have B := Go.Joins.below_alloc1 w8 (.cells (wcells knW20).toArray 46)
  have FB0_31 := Lib.hid (heap_below FB0_30.out B)
  have FB1_31 := Lib.hid (heap_below FB1_30.out B)
  have R2_31 := Lib.hid (R2_30.out.below B)
  have FB2_31 := Lib.hid (heap_below FB2_30.out B)
  have T_31 := Lib.hid (andThen T_30.out B)
  clear B FB0_30 FB1_30 R2_30 FB2_30 T_30
  have WB_32 := Lib.hid Q
  clear Q
  have WW20_33 := Lib.hid (words_lit knW20 WB_32.out rfl)
  go_wp2_with fail
  refine (HW.out _ _ _ ⟨_, _, _, rfl⟩).mono ?_
  rintro e w9 ⟨rfl, B⟩
  have FB0_34 := Lib.hid (heap_below FB0_31.out B)
  have FB1_34 := Lib.hid (heap_below FB1_31.out B)
  have R2_34 := Lib.hid (R2_31.out.below B)
  have FB2_34 := Lib.hid (heap_below FB2_31.out B)
  have WW20_34 := Lib.hid (WordsAt.below WW20_33.out B)
  have T_34 := Lib.hid (andThen T_31.out B)
  clear B FB0_31 FB1_31 R2_31 FB2_31 WB_32 WW20_33 T_31
  have Q := World.alloc_heap_new w9 (.cells (rcells [.slice (some ⟨w8.heap.size, 0, none⟩) 2 2] knR2).toArray 39)
  have B := Go.Joins.below_alloc1 w9 (.cells (rcells [.slice (some ⟨w8.heap.size, 0, none⟩) 2 2] knR2).toArray 39)
  have FB0_35 := Lib.hid (heap_below FB0_34.out B)
  have FB1_35 := Lib.hid (heap_below FB1_34.out B)
  have R2_35 := Lib.hid (R2_34.out.below B)
  have FB2_35 := Lib.hid (heap_below FB2_34.out B)
  have WW20_35 := Lib.hid (WordsAt.below WW20_34.out B)
  have T_35 := Lib.hid (andThen T_34.out B)
  clear B FB0_34 FB1_34 R2_34 FB2_34 WW20_34 T_34
  have RB_36 := Lib.hid Q
  clear Q
  have RL := rows_lit [.slice (some ⟨w8.heap.size, 0, none⟩) 2 2] knR2 RB_36.out rfl rfl (by
    intro p hp
    simp only [knR2, List.zip_cons_cons, List.zip_nil_right, List.mem_cons, List.not_mem_nil, or_false] at hp
    rcases hp with rfl
    · exact WW20_35.out)
  go_wp2_with fail
  refine (same_true _ _ _ knR2 knR2 true R2_35.out RL (Agree.refl _ _) (by decide) (by decide)).mono ?_
  rintro e w10 ⟨rfl, B⟩
  clear RL
  have FB0_37 := Lib.hid (heap_below FB0_35.out B)
  have FB1_37 := Lib.hid (heap_below FB1_35.out B)
  have FB2_37 := Lib.hid (heap_below FB2_35.out B)
  have T_37 := Lib.hid (andThen T_35.out B)
  clear B FB0_35 FB1_35 R2_35 FB2_35 WW20_35 RB_36 T_35
  go_wp2_with fail
  refine (HF0.out _).mono ?_
  rintro e w11 ⟨rfl, B⟩
  have T_38 := Lib.hid (andThen T_37.out B)
  clear B FB0_37 FB1_37 FB2_37 T_37
  go_wp2_with fail
  refine (HF1.out _).mono ?_
  rintro e w12 ⟨rfl, B⟩
  have T_39 := Lib.hid (andThen T_38.out B)
  clear B T_38
  go_wp2_with fail
  refine (HF2.out _).mono ?_
  rintro e w13 ⟨rfl, B⟩
  have T_40 := Lib.hid (andThen T_39.out B)
  clear B T_39
  go_wp2_with fail
  refine (HF3.out _).mono ?_
  rintro e w14 ⟨rfl, B⟩
  have T_41 := Lib.hid (andThen T_40.out B)
  clear B T_40
  go_wp2_with fail
  refine (HF4.out _).mono ?_
  rintro e w15 ⟨rfl, B⟩
  have T_42 := Lib.hid (andThen T_41.out B)
  clear B T_41
  go_wp2_with fail
  refine (HF5.out _).mono ?_
  rintro e w16 ⟨rfl, B⟩
  have T_43 := Lib.hid (andThen T_42.out B)
  clear B T_42
  go_wp2_with fail
  refine (HF6.out _).mono ?_
  rintro e w17 ⟨rfl, B⟩
  have T_44 := Lib.hid (andThen T_43.out B)
  clear B T_43
  go_wp2_with fail
  refine (HF7.out _).mono ?_
  rintro e w18 ⟨rfl, B⟩
  have T_45 := Lib.hid (andThen T_44.out B)
  clear B T_44
  go_wp2_with fail
  refine (HQ0.out _).mono ?_
  rintro e w19 ⟨rfl, B⟩
  have T_46 := Lib.hid (andThen T_45.out B)
  clear B T_45
  go_wp2_with fail
  refine (HQ1.out _).mono ?_
  rintro e w20 ⟨rfl, B⟩
  have T_47 := Lib.hid (andThen T_46.out B)
  clear B T_46
  go_wp2_with fail
  refine (HQ2.out _).mono ?_
  rintro e w21 ⟨rfl, B⟩
  have T_48 := Lib.hid (andThen T_47.out B)
  clear B T_47
  go_wp2_with fail
  refine (HQ3.out _).mono ?_
  rintro e w22 ⟨rfl, B⟩
  have T_49 := Lib.hid (andThen T_48.out B)
  clear B T_48
  go_wp2_with fail
  refine (HU0.out _).mono ?_
  rintro e w23 ⟨rfl, B⟩
  have T_50 := Lib.hid (andThen T_49.out B)
  clear B T_49
  go_wp2_with fail
  refine (HU1.out _).mono ?_
  rintro e w24 ⟨rfl, B⟩
  have T_51 := Lib.hid (andThen T_50.out B)
  clear B T_50
  go_wp2_with fail
  refine (HU2.out _).mono ?_
  rintro e w25 ⟨rfl, B⟩
  have T_52 := Lib.hid (andThen T_51.out B)
  clear B T_51
  go_wp2_with fail
  refine (HN0.out _).mono ?_
  rintro e w26 ⟨rfl, B⟩
  have T_53 := Lib.hid (andThen T_52.out B)
  clear B T_52
  go_wp2_with fail
  refine (HN1.out _).mono ?_
  rintro e w27 ⟨rfl, B⟩
  have T_54 := Lib.hid (andThen T_53.out B)
  clear B T_53
  go_wp2_with fail
  refine (HN2.out _).mono ?_
  rintro e w28 ⟨rfl, B⟩
  have T_55 := Lib.hid (andThen T_54.out B)
  clear B T_54
  have Q := World.alloc_heap_new w28 (.cells (wcells knV).toArray 46)
  have B := Go.Joins.below_alloc1 w28 (.cells (wcells knV).toArray 46)
  have T_56 := Lib.hid (andThen T_55.out B)
  clear B T_55
  have WB_57 := Lib.hid Q
  clear Q
  have VW_58 := Lib.hid (words_lit knV WB_57.out rfl)
  go_wp2_with fail
  refine (HW.out _ _ _ ⟨_, _, _, rfl⟩).mono ?_
  rintro e w29 ⟨rfl, B⟩
  have VW_59 := Lib.hid (WordsAt.below VW_58.out B)
  have T_59 := Lib.hid (andThen T_56.out B)
  clear B WB_57 VW_58 T_56
  have Q := World.alloc_heap_new w29 (.cells #[.int .i64 0, .slice (some ⟨w28.heap.size, 0, none⟩) 2 2] 39)
  have B := Go.Joins.below_alloc1 w29 (.cells #[.int .i64 0, .slice (some ⟨w28.heap.size, 0, none⟩) 2 2] 39)
  have VW_60 := Lib.hid (WordsAt.below VW_59.out B)
  have T_60 := Lib.hid (andThen T_59.out B)
  clear B VW_59 T_59
  have KB_61 := Lib.hid Q
  clear Q
  have Y0_0 := cell2_0 KB_61.out
  have Y1_0 := cell2_1 KB_61.out
  have HV := Lib.hid (fun W hw => by
    have h := Value_any W (.slice (some ⟨w28.heap.size, 0, none⟩) 2 2) 0 knV hw (by decide) ⟨#[107]⟩ (by decide)
    rw [show (⟨#[107]⟩ : ByteArray).data.toList = [107] from rfl, kn_v0] at h
    exact h)
  go_wp2_with fail
  refine (HV.out _ VW_60.out).mono ?_
  rintro e w30 ⟨rfl, B⟩
  clear HV
  clear Y0_0 Y1_0
  have VW_62 := Lib.hid (WordsAt.below VW_60.out B)
  have KB_62 := Lib.hid (heap_below KB_61.out B)
  have T_62 := Lib.hid (andThen T_60.out B)
  clear B VW_60 KB_61 T_60
  have Q := World.alloc_heap_new w30 (.cells (wcells knX).toArray 46)
  have B := Go.Joins.below_alloc1 w30 (.cells (wcells knX).toArray 46)
  have VW_63 := Lib.hid (WordsAt.below VW_62.out B)
  have KB_63 := Lib.hid (heap_below KB_62.out B)
  have T_63 := Lib.hid (andThen T_62.out B)
  clear B VW_62 KB_62 T_62
  have WB_64 := Lib.hid Q
  clear Q
  have XW_65 := Lib.hid (words_lit knX WB_64.out rfl)
  go_wp2_with fail
  refine (HW.out _ _ _ ⟨_, _, _, rfl⟩).mono ?_
  rintro e w31 ⟨rfl, B⟩
  have VW_66 := Lib.hid (WordsAt.below VW_63.out B)
  have KB_66 := Lib.hid (heap_below KB_63.out B)
  have XW_66 := Lib.hid (WordsAt.below XW_65.out B)
  have T_66 := Lib.hid (andThen T_63.out B)
  clear B VW_63 KB_63 WB_64 XW_65 T_63
  have HV := Lib.hid (fun W hw => by
    have h := Value_any W (.slice (some ⟨w30.heap.size, 0, none⟩) 2 2) 0 knX hw (by decide) ⟨#[107]⟩ (by decide)
    rw [show (⟨#[107]⟩ : ByteArray).data.toList = [107] from rfl, kn_v1] at h
    exact h)
  go_wp2_with fail
  refine (HV.out _ XW_66.out).mono ?_
  rintro e w32 ⟨rfl, B⟩
  clear HV
  have VW_67 := Lib.hid (WordsAt.below VW_66.out B)
  have KB_67 := Lib.hid (heap_below KB_66.out B)
  have T_67 := Lib.hid (andThen T_66.out B)
  clear B VW_66 KB_66 XW_66 T_66
  have Y0_2 := cell2_0 KB_67.out
  have Y1_2 := cell2_1 KB_67.out
  have HV := Lib.hid (fun W hw => by
    have h := Value_any W (.slice (some ⟨w28.heap.size, 0, none⟩) 2 2) 0 knV hw (by decide) ⟨#[106]⟩ (by decide)
    rw [show (⟨#[106]⟩ : ByteArray).data.toList = [106] from rfl, kn_v2] at h
    exact h)
  go_wp2_with fail
  refine (HV.out _ VW_67.out).mono ?_
  rintro e w33 ⟨rfl, B⟩
  clear HV
  clear Y0_2 Y1_2
  have VW_68 := Lib.hid (WordsAt.below VW_67.out B)
  have KB_68 := Lib.hid (heap_below KB_67.out B)
  have T_68 := Lib.hid (andThen T_67.out B)
  clear B VW_67 KB_67 T_67
  have Y0_3 := cell2_0 KB_68.out
  have Y1_3 := cell2_1 KB_68.out
  have HV := Lib.hid (fun W hw => by
    have h := Value_any W (.slice (some ⟨w28.heap.size, 0, none⟩) 2 2) 0 knV hw (by decide) ⟨#[75]⟩ (by decide)
    rw [show (⟨#[75]⟩ : ByteArray).data.toList = [75] from rfl, kn_v3] at h
    exact h)
  go_wp2_with fail
  refine (HV.out _ VW_68.out).mono ?_
  rintro e w34 ⟨rfl, B⟩
  clear HV
  clear Y0_3 Y1_3
  have T_69 := Lib.hid (andThen T_68.out B)
  clear B VW_68 KB_68 T_68
  go_wp2_with fail
  refine (HA.out _).mono ?_
  rintro e w35 ⟨rfl, B⟩
  have T_70 := Lib.hid (andThen T_69.out B)
  clear B T_69
  go_wp2_with fail
  refine (HM0.out _).mono ?_
  rintro e w36 ⟨rfl, B⟩
  have T_71 := Lib.hid (andThen T_70.out B)
  clear B T_70
  go_wp2_with fail
  refine (HM1.out _).mono ?_
  rintro e w37 ⟨rfl, B⟩
  have T_72 := Lib.hid (andThen T_71.out B)
  clear B T_71
  go_wp2_with fail
  go_ret
  exact ⟨rfl, T_72.out⟩
end Go.Proofs.YtbcofimmfbmkoaaDoor
