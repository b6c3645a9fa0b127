/- The plain law and the walk of DiskBack, chapter 11 (disk): what is written is read. -/
import Derived.Test.YtiemlaofhmncdaaDiskMd
import Derived.Test.YtiemlaofhmncdaaDiskKn
import Derived.Test.YtiemlaofhmncdaaDiskLw
import Derived.BigQuiet
import Derived.Deep.QuietTactic
namespace Go.Proofs.Ytiemlaofhmncdaa
open Go.RowKit Disk11

theorem below_drewN {B : Nat} {a w : World} (h : Below B a w) (n : Nat) : Below B a (w.drewN n) := ⟨h.os, h.tape, h.output, h.size, h.block⟩
theorem good_chk {d : Dev} (h : Disk11.Good d) : chk d = (0, 0) := (chk_good d).2 h
theorem readD_all {d : Dev} (h : Disk11.Good d) : readD d 0 ((d.1.length : Int) * 64) = (readAll d, 0) := by
  unfold readD
  rw [good_chk h, if_neg (by simp)]
  have hi : inside (Disk11.size d) 0 ((d.1.length : Int) * 64) = true := by rw [inside_iff]; unfold Disk11.size; omega
  rw [hi, if_neg (by simp), Int.toNat_zero, List.drop_zero, List.take_of_length_le (by rw [readAll_length h]; omega)]
theorem writeD_ok {d : Dev} (h : Disk11.Good d) (h2 : d.2.length < 1000) (a : Nat) (x : List UInt8) (hx : x ≠ []) (ha : a + x.length ≤ 64 * d.1.length) : writeD d a x = ((d.1, d.2 ++ [((a : Int), x)]), 0) := by
  unfold writeD
  rw [good_chk h, if_neg (by simp)]
  have hi : inside (Disk11.size d) a x.length = true := by rw [inside_iff]; unfold Disk11.size; omega
  have he : x.isEmpty = false := by cases x <;> simp_all
  rw [hi, he, if_neg (by simp), if_neg (by omega)]
theorem good_write {d : Dev} (h : Disk11.Good d) (h2 : d.2.length < 1000) (a : Nat) (x : List UInt8) (hx : x ≠ []) (ha : a + x.length ≤ 64 * d.1.length) : Disk11.Good (d.1, d.2 ++ [((a : Int), x)]) := by
  obtain ⟨g1, g2, g3, g4, g5⟩ := h
  refine ⟨g1, g2, g3, by simp; omega, fun w hw => ?_⟩
  rcases List.mem_append.1 hw with k | k
  · exact g5 w k
  · rw [List.mem_singleton.1 k]
    refine ⟨hx, Int.natCast_nonneg _, ?_⟩
    show (a : Int) + x.length ≤ ((64 * d.1.length : Nat) : Int)
    omega
theorem readAll_write (d : Dev) (a : Nat) (x : List UInt8) : readAll (d.1, d.2 ++ [((a : Int), x)]) = layF (readAll d) a x := by
  unfold readAll
  dsimp only
  rw [List.foldl_append]; rfl
theorem layF_mid {b x : List UInt8} {a : Nat} (h : a + x.length ≤ b.length) : ((layF b a x).drop a).take x.length = x := by
  unfold layF
  have e : (b.take a).length = a := by rw [List.length_take]; omega
  rw [List.append_assoc, List.drop_append_of_le_length (by omega), List.drop_of_length_le (by omega), List.nil_append, List.take_left' rfl]
theorem layF_low {b x : List UInt8} {a : Nat} (h : a + x.length ≤ b.length) : (layF b a x).take a = b.take a := by
  unfold layF
  rw [List.append_assoc, List.take_left' (by simp; omega)]
theorem layF_high {b x : List UInt8} {a : Nat} (h : a + x.length ≤ b.length) : (layF b a x).drop (a + x.length) = b.drop (a + x.length) := by
  unfold layF
  rw [List.drop_left' (by simp; omega)]
theorem sub_mid (y : List UInt8) (i j : Nat) (h1 : i ≤ j) (h2 : j ≤ y.length) (W : World) : (Instr.slice 9 (.string ⟨y.toArray⟩) (some (.int .i64 (i : Int))) (some (.int .i64 (j : Int))) none).run Try.prog W = .ok (.string ⟨((y.drop i).take (j - i)).toArray⟩) W := by
  have hs : (⟨y.toArray⟩ : ByteArray).size = y.length := rfl
  rw [run_slice_string W _ _ _ _ _ _ Try.underlying9 (by omega) (by omega) (by rw [hs]; omega), ByteArray.extract_mk, Int.toNat_natCast, Int.toNat_natCast]
theorem sub_low (y : List UInt8) (j : Nat) (h2 : j ≤ y.length) (W : World) : (Instr.slice 9 (.string ⟨y.toArray⟩) none (some (.int .i64 (j : Int))) none).run Try.prog W = .ok (.string ⟨(y.take j).toArray⟩) W := by
  have hs : (⟨y.toArray⟩ : ByteArray).size = y.length := rfl
  rw [run_slice_string_to_if W _ _ _ _ Try.underlying9, if_pos (by rw [hs]; omega), ByteArray.extract_mk, Int.toNat_natCast]; simp
theorem sub_high (y : List UInt8) (i : Nat) (h2 : i ≤ y.length) (W : World) : (Instr.slice 9 (.string ⟨y.toArray⟩) (some (.int .i64 (i : Int))) none none).run Try.prog W = .ok (.string ⟨(y.drop i).toArray⟩) W := by
  have hs : (⟨y.toArray⟩ : ByteArray).size = y.length := rfl
  rw [run_slice_string_from_if W _ _ _ _ Try.underlying9, if_pos (by rw [hs]; omega), ByteArray.extract_mk, Int.toNat_natCast, hs, List.take_of_length_le (by simp)]

set_option maxHeartbeats 4000000 in
set_option maxRecDepth 100000 in
theorem DiskBack_any (l : List Int) (v : Value) (p : Int) (x : List UInt8) (w : World) (hp : I64 p) (hl : l.length ≤ maxLen) (hwf : ∀ n ∈ l, (Lit.int .i64 n).wf = true) (hrow : Row w 1 v l.length (l.map fun n => .int .i64 n)) :
    Calls Try.prog 6 #[v, .int .i64 p, .string ⟨x.toArray⟩] w fun e w' => e = .returned (.bool true) ∧ Below w.heap.size w w' := by
  have HK := Lib.hid (fun W => DiskKnown_any W)
  have HM := Lib.hid (fun W h => Made_any l v W hl hwf h)
  have hR := Lib.hid hrow
  obtain ⟨na, nc, rfl, _⟩ := hrow.slice
  clear hrow hwf hl
  have fin : (decide ((x.length : Int) < 1) = true ∨ decide ((x.length : Int) < 1) = false ∧ decide ((60 : Int) < x.length) = true) ∨ (1 ≤ x.length ∧ x.length ≤ 60) := by
    simp only [decide_eq_true_eq, decide_eq_false_iff_not]; omega
  go_enter Try.func6, Try.ntmps6
  go_wp2_with fail
  refine (HK.out _).mono ?_
  rintro e w1 ⟨rfl, b1⟩
  go_wp2_with fail
  refine (HM.out _ (hR.out.below b1)).mono ?_
  rintro e w2 ⟨d, ab, ac, cb, cc, rfl, d2, ⟨hg, hl1, hl2⟩, b2⟩
  have k2 := World.alloc_heap_new w2 (.cells #[.slice ab d.1.length cb, .slice ac d.2.length cc] 25)
  have a2 := Go.Joins.below_alloc1 w2 (.cells #[.slice ab d.1.length cb, .slice ac d.2.length cc] 25)
  have t2 := (andThen b1 b2).trans (a2.mono (andThen b1 b2).size)
  have d2' := d2.below a2
  have hlen := readAll_length hg
  clear d2 a2 b1 b2
  rcases fin with h | ⟨h1, h2⟩
  · have hT := Lib.hid t2
    rcases h with h | ⟨h, h'⟩
    all_goals
      go_wp2
      go_ret
      exact ⟨rfl, hT.out⟩
  · have h1' : decide ((x.length : Int) < 1) = false := by simp; omega
    have h2' : decide ((60 : Int) < x.length) = false := by simp; omega
    have hx : x ≠ [] := by rintro rfl; simp at h1
    have hg1 := hg.1
    go_wp2_with fail
    refine (Mod_some p ((d.1.length : Int) * 64 - (x.length : Int) + 1) _ hp (by omega) (by omega)).mono ?_
    rintro e w1 ⟨a, ha, rfl, rfl⟩
    have haf : a + x.length ≤ 64 * d.1.length := by omega
    have HR1 := Lib.hid (fun v W h => Read_any d v 0 ((d.1.length : Int) * 64) W h)
    rw [readD_all hg] at HR1
    have HW := Lib.hid (fun v W h => (Write_any d v a x W h).mono (fun _ _ => as_disk (nb := d.1.length) (nc := d.2.length + 1) 0 (writeD_ok hg (by omega) a x hx haf) rfl rfl (by simp)))
    have hgw := good_write hg (by omega) a x hx haf
    have HR2 := Lib.hid (fun v W h => Read_any (d.1, d.2 ++ [((a : Int), x)]) v 0 ((d.1.length : Int) * 64) W h)
    rw [readD_all (d := (d.1, d.2 ++ [((a : Int), x)])) hgw, readAll_write] at HR2
    obtain ⟨Y, hY⟩ : ∃ Y, Y = readAll d := ⟨_, rfl⟩
    rw [← hY] at HR1 HR2 hlen
    obtain ⟨Z, hZ⟩ : ∃ Z, Z = layF Y a x := ⟨_, rfl⟩
    rw [← hZ] at HR2
    have hZl : Z.length = 64 * d.1.length := by rw [hZ, layF_length (by omega), hlen]
    have s1 := sub_mid Z a (a + x.length) (by omega) (by omega)
    rw [show a + x.length - a = x.length by omega, hZ, layF_mid (by omega), ← hZ, Int.natCast_add] at s1
    have s2 := sub_low Z a (by omega)
    rw [hZ, layF_low (by omega), ← hZ] at s2
    have s3 := sub_low Y a (by omega)
    have s4 := sub_high Z (a + x.length) (by omega)
    rw [hZ, layF_high (by omega), ← hZ, Int.natCast_add] at s4
    have s5 := sub_high Y (a + x.length) (by omega)
    rw [Int.natCast_add] at s5
    have hS := Lib.hid (And.intro s1 (And.intro s2 (And.intro s3 (And.intro s4 s5))))
    have x0 := cell2_0 k2
    have x1 := cell2_1 k2
    clear s1 s2 s3 s4 s5 hZ hY hgw ha
    go_wp2_with fail
    refine (HR1.out _ _ d2').mono ?_
    rintro e w3 ⟨rfl, b3⟩
    have k3 := heap_below k2 b3
    have t3 := t2.trans (b3.mono t2.size)
    have d3 := d2'.below b3
    have x0 := cell2_0 k3
    have x1 := cell2_1 k3
    clear k2 t2 d2' b3
    go_wp2_with fail
    refine (HW.out _ _ d3).mono ?_
    rintro e w4 ⟨ab4, cb4, ac4, cc4, rfl, d4, b4⟩
    have a4 := Go.Joins.below_alloc1 w4 (.cells #[.slice ab4 d.1.length cb4, .slice ac4 (d.2.length + 1) cc4] 25)
    have t4 := t3.trans ((b4.trans (a4.mono b4.size)).mono t3.size)
    have d4' := d4.below a4
    clear k3 t3 d3 b4 x0 x1 a4 d4
    go_wp2_with fail
    refine (HR2.out _ _ d4').mono ?_
    rintro e w5 ⟨rfl, b5⟩
    have t5 := t4.trans (b5.mono t4.size)
    have e1 : ((Y.length : Int) != (d.1.length : Int) * 64) = false := by simp; omega
    have e2 : ((Z.length : Int) != (d.1.length : Int) * 64) = false := by simp; omega
    clear hlen hZl
    go_wp2_with fail
    have hwr : IntKind.i64.wrap ((a : Int) + (x.length : Int)) = (a : Int) + (x.length : Int) := by rw [IntKind.wrap_i64]; omega
    have hT := Lib.hid t5
    clear t4 t5 b5 d4' HR1 HR2 HW HK HM e1 e2
    obtain ⟨s1, s2, s3, s4, s5⟩ := hS.out
    go_quiet (fail)
    go_wp2
    go_ret
    exact ⟨rfl, below_drewN hT.out _⟩
end Go.Proofs.Ytiemlaofhmncdaa
