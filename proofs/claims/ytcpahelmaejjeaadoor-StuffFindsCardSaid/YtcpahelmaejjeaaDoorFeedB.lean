/- The walks of the reference's Check, of the comparison of states, and of Feed, chapter 10. -/
import Derived.Test.YtcpahelmaejjeaaDoorFeedA
import Derived.Test.YtcpahelmaejjeaaDoorShelfR
import Derived.Test.YtcpahelmaejjeaaDoorStuffI
import Derived.Laws.StructEq
namespace Go.Proofs.YtcpahelmaejjeaaDoor
open Go.RowKit Go.Shelf Stuff10

theorem zi_get : ∀ (h : List UInt8), zi h < h.length → h[zi h]? = some 0
  | [], a => by simp at a
  | b :: h, a => by
    by_cases hb : b = 0
    · subst hb; rfl
    · have hn : (b != 0) = true := by simpa using hb
      have e : zi (b :: h) = zi h + 1 := by unfold zi; rw [List.takeWhile_cons_of_pos (p := fun b => b != 0) hn]; rfl
      rw [e] at a ⊢
      have := zi_get h (by simpa using a)
      simpa using this
theorem zi_before : ∀ (h : List UInt8) (k : Nat) (b : UInt8), k < zi h → h[k]? = some b → b ≠ 0
  | [], k, b, a, _ => by simp [zi] at a
  | c :: h, k, b, a, e => by
    by_cases hb : c = 0
    · subst hb; simp [zi] at a
    · have hn : (c != 0) = true := by simpa using hb
      have e2 : zi (c :: h) = zi h + 1 := by unfold zi; rw [List.takeWhile_cons_of_pos (p := fun b => b != 0) hn]; rfl
      cases k with
      | zero => simp at e; rw [← e]; exact hb
      | succ k =>
        rw [e2] at a
        exact zi_before h k b (by omega) (by simpa using e)
theorem str_at (y : List UInt8) (t : Nat) (b : UInt8) (h : y[t]? = some b) (W : World) : (Instr.index 9 (.string ⟨y.toArray⟩) (.int .i64 (t : Int))).run Tryd.prog W = .ok (.int .u8 (b.toNat : Int)) W := by
  have hlt : t < y.length := by
    rcases Nat.lt_or_ge t y.length with k | k
    · exact k
    · rw [List.getElem?_eq_none k] at h; cases h
  have hs : (⟨y.toArray⟩ : ByteArray).size = y.length := rfl
  rw [run_index_string W _ _ _ _ Tryd.underlying9, dif_pos (by rw [hs]; omega)]
  have : (⟨y.toArray⟩ : ByteArray)[(t : Int).toNat]'(by rw [hs]; omega) = b := by
    rw [List.getElem?_eq_getElem hlt] at h
    have e : (⟨y.toArray⟩ : ByteArray)[(t : Int).toNat]'(by rw [hs]; omega) = y[t] := by
      simp only [Int.toNat_natCast]; rfl
    rw [e]; exact Option.some.inj h
  rw [this]
theorem checkF_over {h : List UInt8} {o : Bool} (a : (o && !h.isEmpty) = true) : checkF (h, o) = 12 := by unfold checkF; dsimp only; rw [a]; simp

set_option maxHeartbeats 1000000 in
theorem RCheckS_any (h : List UInt8) (o : Bool) (w : World) :
    Calls Tryd.prog 27 #[.agg #[.string ⟨h.toArray⟩, .bool o]] w fun e w' => e = .returned (.int .i64 (checkF (h, o) : Int)) ∧ Below w.heap.size w w' := by
  have b0 := Go.Joins.below_alloc1 w (.cells #[.string ⟨h.toArray⟩, .bool o] 42)
  have k0 := World.alloc_heap_new w (.cells #[.string ⟨h.toArray⟩, .bool o] 42)
  have c0 := cell2_0 k0
  by_cases a : 1300 < h.length
  · have a' : decide ((1300 : Int) < h.length) = true := by simp; omega
    rw [checkF_long a]
    clear a c0
    go_enter Tryd.func27, Tryd.ntmps27
    go_wp2
    go_ret
    exact ⟨rfl, b0⟩
  · have a' : decide ((1300 : Int) < h.length) = false := by simp; omega
    have main : ∀ (ov : (o && !h.isEmpty) = false), (o = false ∨ (o = true ∧ h = [])) → Calls Tryd.prog 27 #[.agg #[.string ⟨h.toArray⟩, .bool o]] w fun e w' => e = .returned (.int .i64 (checkF (h, o) : Int)) ∧ Below w.heap.size w w' := by
      intro ov hcase
      obtain ⟨r, hr⟩ : ∃ r, r = checkF (h, o) := ⟨_, rfl⟩
      rw [← hr]
      have hyes : Hid (zi h < h.length → r = 12) := Lib.hid (fun b => by rw [hr, checkF_zero b])
      have hno : Hid (¬ zi h < h.length → r = 0) := Lib.hid (fun b => by rw [hr, checkF_rest a b, ov]; rfl)
      have hz := zi_le h
      have hla : h.length ≤ 1300 := by omega
      clear hr ov a
      rcases hcase with rfl | ⟨rfl, rfl⟩
      · go_enter Tryd.func27, Tryd.ntmps27
        go_wp2
        go_loopw [3] (fun i wr => ∃ k : Nat, i = .int .i64 k ∧ k ≤ zi h ∧ wr = w.alloc (.cells #[.string ⟨h.toArray⟩, .bool false] 42)) (fun i _ => h.length - (intOf i).toNat)
        case atStart => exact ⟨0, rfl, Nat.zero_le _, rfl⟩
        case round =>
          obtain ⟨k, rfl, hk, rfl⟩ := hrel
          by_cases hlt : k < h.length
          · have hlt' : decide ((k : Int) < h.length) = true := by simp; omega
            obtain ⟨b, hb⟩ : ∃ b, h[k]? = some b := ⟨_, List.getElem?_eq_getElem hlt⟩
            have ix := str_at h k b hb
            by_cases hkz : k < zi h
            · have hbn := zi_before h k b hkz hb
              have hb' : ((b.toNat : Int) == 0) = false := by
                rw [beq_eq_false_iff_ne]
                intro e
                exact hbn (UInt8.toNat_inj.1 (by simpa using e))
              clear hb hbn
              go_wp2
              exact ⟨⟨k + 1, rfl, hkz, by first | rfl | trivial⟩, by simp [intOf]; omega⟩
            · obtain rfl : k = zi h := by omega
              have hres := hyes.out hlt
              rw [zi_get h hlt] at hb
              have hb' : ((b.toNat : Int) == 0) = true := by rw [← Option.some.inj hb]; rfl
              clear hb
              go_wp2
              go_ret
              exact ⟨by rw [hres]; rfl, b0⟩
          · have hlt' : decide ((k : Int) < h.length) = false := by simp; omega
            have hres := hno.out (by omega)
            go_wp2
            go_ret
            exact ⟨by rw [hres]; rfl, b0⟩
      · have hres := hno.out (by simp)
        go_enter Tryd.func27, Tryd.ntmps27
        go_wp2
        go_loopw [3] (fun i wr => i = .int .i64 0 ∧ wr = w.alloc (.cells #[.string ⟨#[]⟩, .bool true] 42)) (fun i _ => 1 - (intOf i).toNat)
        case atStart => exact ⟨rfl, rfl⟩
        case round =>
          obtain ⟨rfl, rfl⟩ := hrel
          go_wp2
          go_ret
          exact ⟨by rw [hres]; rfl, b0⟩
    cases o with
    | false => exact main rfl (.inl rfl)
    | true =>
      cases h with
      | nil => exact main rfl (.inr ⟨rfl, rfl⟩)
      | cons c h =>
        obtain ⟨y, hy⟩ : ∃ y, y = c :: h := ⟨_, rfl⟩
        have hye : y.isEmpty = false := by rw [hy]; rfl
        rw [← hy] at a' b0 c0 ⊢
        rw [checkF_over (h := y) (o := true) (by rw [hye]; rfl)]
        clear hy main
        go_enter Tryd.func27, Tryd.ntmps27
        go_wp2
        go_ret
        exact ⟨rfl, b0⟩

theorem eq_stream (x1 y1 : List UInt8) (x2 y2 : Bool) (W : World) : (binOp .eql 42 (.agg #[.string ⟨x1.toArray⟩, .bool x2]) (.agg #[.string ⟨y1.toArray⟩, .bool y2])).run Tryd.prog W = .ok (.bool ((x1 == y1) && (x2 == y2))) W := by
  have t1 : Tryd.prog.stoodInHeld 42 = false := by kernel_rfl
  have t2 : Tryd.prog.underlying 42 = some (.struct (Tryd.prog.fieldsOf 42)) := by kernel_rfl
  rw [run_eql_struct, run_equalIn_agg _ _ _ _ _ t2 t1]
  simp [go_sem]
  by_cases h1 : x1 = y1 <;> by_cases h2 : x2 = y2 <;> simp [h1, h2]
set_option maxHeartbeats 1000000 in
theorem state_any (h : List UInt8) (o : Bool) (w : World) :
    Calls Tryd.prog 28 #[.agg #[.string ⟨h.toArray⟩, .bool o], .agg #[.string ⟨h.toArray⟩, .bool o]] w fun e w' => e = .returned (.bool true) ∧ Below w.heap.size w w' := by
  have hq := eq_stream h h o o
  rw [show ((h == h) && (o == o)) = true by simp] at hq
  go_enter Tryd.func28, Tryd.ntmps28
  go_wp2
  go_ret
  exact ⟨rfl, Go.Joins.below_alloc2 w _ _⟩
end Go.Proofs.YtcpahelmaejjeaaDoor
