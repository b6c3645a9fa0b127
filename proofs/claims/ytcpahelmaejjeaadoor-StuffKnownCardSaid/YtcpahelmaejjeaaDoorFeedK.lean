/- The walk of the statement StuffKnown, chapter 10. -/
import Derived.Test.YtcpahelmaejjeaaDoorFeedL
namespace Go.Proofs.YtcpahelmaejjeaaDoor
open Go.RowKit Go.Shelf Stuff10

theorem app_17 (k : Nat) : (⟨(List.replicate k (17 : UInt8)).toArray⟩ : ByteArray) ++ ⟨#[17]⟩ = ⟨(List.replicate (k + 1) (17 : UInt8)).toArray⟩ := by
  apply ByteArray.ext
  rw [ByteArray.data_append, List.replicate_succ']
  apply Array.toList_inj.1
  simp
set_option maxHeartbeats 1000000 in
theorem same_any (n : Nat) (hn : n ≤ 254) (w : World) :
    Calls Tryd.prog 30 #[.int .i64 n] w fun e w' => e = .returned (.string ⟨(List.replicate n (17 : UInt8)).toArray⟩) ∧ w = w' := by
  go_enter Tryd.func30, Tryd.ntmps30
  go_wp2
  go_loopw [3, 4] (fun x i wr => ∃ (k : Nat) (X : List UInt8), x = .string ⟨X.toArray⟩ ∧ Hid (X = List.replicate k (17 : UInt8)) ∧ i = .int .i64 k ∧ k ≤ n ∧ wr = w) (fun _ i _ => n - (intOf i).toNat)
  case atStart => exact ⟨0, [], rfl, Lib.hid rfl, rfl, Nat.zero_le _, rfl⟩
  case round =>
    obtain ⟨k, X, rfl, hX, rfl, hk, rfl⟩ := hrel
    have hXl : X.length ≤ 254 := by rw [hX.out, List.length_replicate]; omega
    by_cases hlt : k < n
    · have hlt' : decide ((k : Int) < n) = true := by simp; omega
      have hap := app_17 k
      rw [← hX.out] at hap
      obtain ⟨Y, hY⟩ : ∃ Y, Y = List.replicate (k + 1) (17 : UInt8) := ⟨_, rfl⟩
      rw [← hY] at hap
      have hHY := Lib.hid hY
      clear hY
      go_wp2
      exact ⟨⟨k + 1, Y, rfl, hHY, rfl, hlt, by first | rfl | trivial⟩, by simp [intOf]; omega⟩
    · have hlt' : decide ((k : Int) < n) = false := by simp; omega
      obtain rfl : k = n := by omega
      clear hXl
      go_wp2
      go_ret
      exact ⟨by rw [hX.out]; rfl, rfl⟩

theorem put_k1 : put [0] = [1, 1] := by decide +kernel
theorem put_k2 : put (List.replicate 254 17) = [255] ++ List.replicate 254 17 ++ [1] := by decide +kernel
theorem put_k3 : put (List.replicate 253 17) = [254] ++ List.replicate 253 17 := by decide +kernel
theorem get_k1 : getS [3, 17] = ([], 11, 2) := by decide +kernel
theorem get_k2 : getS [] = ([], 11, 0) := by decide +kernel
theorem feed_k1 : feedF ([], false) [2, 17, 0, 0, 5, 17, 0, 2] = ((([[17]], 1), ([2], false)), 0) := by decide +kernel
theorem feed_k2 : feedF ([2], false) [34, 0] = ((([[34]], 0), ([], false)), 0) := by decide +kernel
theorem split_k : splitR [1, 0] = ((([[]], 0), []), 0) := by decide +kernel
theorem neq_stream (x1 y1 : List UInt8) (x2 y2 : Bool) (W : World) : (binOp .neq 42 (.agg #[.string ⟨x1.toArray⟩, .bool x2]) (.agg #[.string ⟨y1.toArray⟩, .bool y2])).run Tryd.prog W = .ok (.bool (!((x1 == y1) && (x2 == y2)))) W := by
  have t1 : Tryd.prog.stoodInHeld 42 = false := by kernel_rfl
  have t2 : Tryd.prog.underlying 42 = some (.struct (Tryd.prog.fieldsOf 42)) := by kernel_rfl
  rw [run_neq_struct, run_equalIn_agg _ _ _ _ _ t2 t1]
  simp [go_sem]
  by_cases h1 : x1 = y1 <;> by_cases h2 : x2 = y2 <;> simp [h1, h2]
theorem row_lit1 (W : World) (x : List UInt8) : Row (W.alloc (.cells #[.string ⟨x.toArray⟩] 9)) 1 (.slice (some ⟨W.heap.size, 0, none⟩) 1 1) 1 (strVals [x]) := by
  have k := World.alloc_heap_new W (.cells #[.string ⟨x.toArray⟩] 9)
  refine ⟨rfl, _, _, rfl, Nat.le_refl _, fun j v hj => ⟨_, rfl, ?_⟩⟩
  rw [addr_add]
  match j, hj with
  | 0, hj => simp [strVals] at hj; subst hj; exact cell1 k
  | j + 1, hj => simp [strVals] at hj

set_option maxHeartbeats 8000000 in
set_option maxRecDepth 100000 in
theorem known_any (m : Int) (w : World) (hG : 1 < w.heap.size) (hm : MaxIs m w) :
    Calls Tryd.prog 10 #[] w fun e w' => e = .returned (.bool true) ∧ Below w.heap.size w w' := by
  have HA := Lib.hid (fun W => awake_any W)
  have P1 := Lib.hid (fun W => puts_true ⟨#[0]⟩ ⟨#[1, 1]⟩ (by decide) put_k1 W)
  obtain ⟨R, hR⟩ : ∃ R, R = List.replicate 254 (17 : UInt8) := ⟨_, rfl⟩
  have hRl : R.length ≤ 254 := by rw [hR, List.length_replicate]; omega
  have S1 := Lib.hid (fun W => same_any 254 (by decide) W)
  have P2 := Lib.hid (fun W => puts_true ⟨R.toArray⟩ (⟨#[255]⟩ ++ ⟨R.toArray⟩ ++ ⟨#[1]⟩) (by show R.length ≤ _; omega) (by
    show put R = _
    rw [hR, put_k2]
    simp [ByteArray.data_append]) W)
  rw [← hR] at S1
  obtain ⟨Q, hQ⟩ : ∃ Q, Q = List.replicate 253 (17 : UInt8) := ⟨_, rfl⟩
  have hQl : Q.length ≤ 254 := by rw [hQ, List.length_replicate]; omega
  have S2 := Lib.hid (fun W => same_any 253 (by decide) W)
  have P3 := Lib.hid (fun W => puts_true ⟨Q.toArray⟩ (⟨#[254]⟩ ++ ⟨Q.toArray⟩) (by show Q.length ≤ _; omega) (by
    show put Q = _
    rw [hQ, put_k3]
    simp [ByteArray.data_append]) W)
  rw [← hQ] at S2
  clear hR hQ
  have G1 := Lib.hid (fun W => by
    have h := Get_any ⟨#[3, 17]⟩ (by decide) W
    rw [show (⟨#[3, 17]⟩ : ByteArray).data.toList = [3, 17] from rfl, get_k1] at h
    exact h)
  have G2 := Lib.hid (fun W => by
    have h := Get_any ⟨#[]⟩ (by decide) W
    rw [show (⟨#[]⟩ : ByteArray).data.toList = [] from rfl, get_k2] at h
    exact h)
  unfold getV at G1 G2
  have F1 := Lib.hid (fun W hG hm => by
    have h := Feed_any m [] false [2, 17, 0, 0, 5, 17, 0, 2] W hG hm
    rw [feed_k1] at h
    unfold FeedPost at h
    exact h)
  have F2 := Lib.hid (fun W hG hm => by
    have h := Feed_any m [2] false [34, 0] W hG hm
    rw [feed_k2] at h
    unfold FeedPost at h
    exact h)
  have F3 := Lib.hid (fun W hG hm => by
    have h := Split_any m ⟨#[1, 0]⟩ W hG hm
    rw [show (⟨#[1, 0]⟩ : ByteArray).data.toList = [1, 0] from rfl, split_k] at h
    exact h)
  have T1 := Lib.hid (fun v1 v2 W x1 x2 => SameTexts_same [[17]] v1 v2 W x1 x2 (by decide))
  have T2 := Lib.hid (fun v1 v2 W x1 x2 => SameTexts_same [[34]] v1 v2 W x1 x2 (by decide))
  have T3 := Lib.hid (fun v1 v2 W x1 x2 => SameTexts_same [[]] v1 v2 W x1 x2 (by decide))
  have N1 := neq_stream [2] [2] false false
  have N2 := neq_stream [] [] false false
  rw [show (!(([2] : List UInt8) == [2] && (false == false))) = false from rfl] at N1
  rw [show (!(([] : List UInt8) == [] && (false == false))) = false from rfl] at N2
  dsimp only at F1 F2 F3 G1 G2
  go_enter Tryd.func10, Tryd.ntmps10
  go_wp2_with fail
  refine (P1.out _).mono ?_
  rintro e w1 ⟨rfl, b1⟩
  go_wp2_with fail
  refine (S1.out _).mono ?_
  rintro e w' ⟨rfl, rfl⟩
  go_wp2_with fail
  refine (S1.out _).mono ?_
  rintro e w' ⟨rfl, rfl⟩
  go_wp2_with fail
  refine (P2.out _).mono ?_
  rintro e w2 ⟨rfl, b2⟩
  go_wp2_with fail
  refine (S2.out _).mono ?_
  rintro e w' ⟨rfl, rfl⟩
  go_wp2_with fail
  refine (S2.out _).mono ?_
  rintro e w' ⟨rfl, rfl⟩
  go_wp2_with fail
  refine (P3.out _).mono ?_
  rintro e w3 ⟨rfl, b3⟩
  have t3 := andThen (andThen b1 b2) b3
  clear b1 b2 b3 hRl hQl
  go_wp2_with fail
  refine (G1.out _).mono ?_
  rintro e w4 ⟨rfl, b4⟩
  have k4 := World.alloc_heap_new w4 (.cells #[.int .i64 11, .int .i64 2] 27)
  have a4 := Go.Joins.below_alloc1 w4 (.cells #[.int .i64 11, .int .i64 2] 27)
  have t4 := andThen t3 (b4.trans (a4.mono b4.size))
  clear t3 b4 a4
  go_wp2_with fail
  refine (G2.out _).mono ?_
  rintro e w5 ⟨rfl, b5⟩
  have a5 := Go.Joins.below_alloc1 w5 (.cells #[.int .i64 11, .int .i64 0] 27)
  have k45 := heap_below k4 (b5.trans (a5.mono b5.size))
  have t5 := andThen t4 (b5.trans (a5.mono b5.size))
  have x0 := cell2_0 k45
  have x1 := cell2_1 k45
  have hG5 := Nat.lt_of_lt_of_le hG t5.size
  have hm5 := cell_below t5 hm
  clear t4 b5 a5 k4 k45
  go_wp2_with fail
  refine (F1.out _ hG5 hm5).mono ?_
  rintro e w6 ⟨v6, rfl, x6, b6⟩
  obtain ⟨ad6, c6, rfl⟩ : ∃ ad c, v6 = .slice ad 1 c := x6.slice
  have k6 := World.alloc_heap_new w6 (.cells #[.string ⟨#[2]⟩, .bool false] 42)
  have a6 := Go.Joins.below_alloc1 w6 (.cells #[.string ⟨#[2]⟩, .bool false] 42)
  have l6 := Go.Joins.below_alloc1 (w6.alloc (.cells #[.string ⟨#[2]⟩, .bool false] 42)) (.cells #[.string ⟨#[17]⟩] 9)
  have r6 := ((Row.of_own x6).below a6).below l6
  have r7 := row_lit1 (w6.alloc (.cells #[.string ⟨#[2]⟩, .bool false] 42)) [17]
  have k6' := heap_below k6 l6
  have t6 := andThen t5 (b6.trans ((andThen a6 l6).mono b6.size))
  clear t5 b6 a6 l6 x6 x0 x1 hm5 hG5 k6
  go_wp2_with fail
  refine (T1.out _ _ _ r6 (by simpa using r7)).mono ?_
  rintro e w7 ⟨rfl, b7⟩
  have k7 := heap_below k6' b7
  have t7 := andThen t6 b7
  have x0 := cell2_0 k7
  have x1 := cell2_1 k7
  have hG7 := Nat.lt_of_lt_of_le hG t7.size
  have hm7 := cell_below t7 hm
  clear t6 b7 k6' r6 r7 N1
  go_wp2_with fail
  refine (F2.out _ hG7 hm7).mono ?_
  rintro e w8 ⟨v8, rfl, x8, b8⟩
  obtain ⟨ad8, c8, rfl⟩ : ∃ ad c, v8 = .slice ad 1 c := x8.slice
  have a8 := Go.Joins.below_alloc1 w8 (.cells #[.string ⟨#[]⟩, .bool false] 42)
  have l8 := Go.Joins.below_alloc1 (w8.alloc (.cells #[.string ⟨#[]⟩, .bool false] 42)) (.cells #[.string ⟨#[34]⟩] 9)
  have r8 := ((Row.of_own x8).below a8).below l8
  have r9 := row_lit1 (w8.alloc (.cells #[.string ⟨#[]⟩, .bool false] 42)) [34]
  have t8 := andThen t7 (b8.trans ((andThen a8 l8).mono b8.size))
  clear t7 b8 a8 l8 x8 x0 x1 hm7 hG7 k7
  go_wp2_with fail
  refine (T2.out _ _ _ r8 (by simpa using r9)).mono ?_
  rintro e w9 ⟨rfl, b9⟩
  have t9 := andThen t8 b9
  have hG9 := Nat.lt_of_lt_of_le hG t9.size
  have hm9 := cell_below t9 hm
  clear t8 b9 r8 r9 N2
  go_wp2_with fail
  refine (F3.out _ hG9 hm9).mono ?_
  rintro e w10 ⟨v10, rfl, x10, b10⟩
  obtain ⟨ad10, c10, rfl⟩ : ∃ ad c, v10 = .slice ad 1 c := x10.slice
  have l10 := Go.Joins.below_alloc1 w10 (.cells #[.string ⟨#[]⟩] 9)
  have r10 := (Row.of_own x10).below l10
  have r11 := row_lit1 w10 []
  have t10 := andThen t9 (b10.trans (l10.mono b10.size))
  clear t9 b10 l10 x10 hm9 hG9
  go_wp2_with fail
  refine (T3.out _ _ _ r10 r11).mono ?_
  rintro e w11 ⟨rfl, b11⟩
  have t11 := andThen t10 b11
  go_wp2_with fail
  refine (HA.out _).mono ?_
  rintro e w12 ⟨rfl, b12⟩
  go_wp2
  go_ret
  exact ⟨rfl, andThen t11 b12⟩
theorem known_shaped (W : World) (hsh : W.ShapedOpen Tryd.prog) :
    Calls Tryd.prog 10 #[] W fun e w' => e = .returned (.bool true) ∧ Below W.heap.size W w' := by
  obtain ⟨m, hm, hG⟩ := max_shaped W hsh
  exact known_any m W hG hm
end Go.Proofs.YtcpahelmaejjeaaDoor
