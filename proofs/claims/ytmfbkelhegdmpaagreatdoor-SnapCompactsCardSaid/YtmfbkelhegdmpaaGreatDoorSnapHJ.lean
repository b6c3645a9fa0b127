/- Texts of small laws, one behind the other. -/
import Derived.Test.YtmfbkelhegdmpaaGreatDoorSnapCG
import Derived.Test.YtmfbkelhegdmpaaGreatDoorDiskGH
import Derived.Test.YtmfbkelhegdmpaaGreatDoorDiskMU
import Derived.Test.YtmfbkelhegdmpaaGreatDoorSnapPl
import Derived.Test.YtmfbkelhegdmpaaGreatDoorSnapIU
/- The walks of slots and of the reference's snapshot, chapter 13 (snap). -/
namespace Go.Proofs.YtmfbkelhegdmpaaGreatDoor
open Go.RowKit Disk11 Journal12 Sum2

theorem read_slot {d : Dev} (hg : Disk11.Good d) (i : Nat) (hi : i < 2) : readD d ((slotN d.1.length * i : Nat) : Int) ((slotN d.1.length : Nat) : Int) = (slotS d i, 0) := by
  have h2 := slotN_two d.1.length
  have hm : slotN d.1.length * i + slotN d.1.length ≤ 64 * d.1.length := by
    have : i = 0 ∨ i = 1 := by omega
    unfold slotN at *
    rcases this with rfl | rfl <;> omega
  unfold readD
  have hin : inside (Disk11.size d) ((slotN d.1.length * i : Nat) : Int) ((slotN d.1.length : Nat) : Int) = true := by rw [inside_iff]; unfold Disk11.size; omega
  rw [good_chk hg, if_neg (by simp), hin, if_neg (by simp), Int.toNat_natCast, Int.toNat_natCast]; rfl
theorem slotS_length {d : Dev} (hg : Disk11.Good d) (i : Nat) (hi : i < 2) : (slotS d i).length = slotN d.1.length := by
  unfold slotS
  rw [List.length_take, List.length_drop, readAll_length hg]
  have h2 := slotN_two d.1.length
  have : i = 0 ∨ i = 1 := by omega
  unfold slotN at *
  rcases this with rfl | rfl <;> omega
theorem foundC_three (r : Nat × List UInt8) : ∃ (a : Int) (b : ByteArray) (c : Bool), foundC r = #[.int .u64 a, .string b, .bool c] := by
  unfold foundC
  by_cases h : r.1 = 0
  · rw [if_pos h]; exact ⟨_, _, _, rfl⟩
  · rw [if_neg h]; exact ⟨_, _, _, rfl⟩
theorem cell_lit {w : World} {b t j : Nat} {cs : Array Value} {v : Value} (h : w.heap[b]? = some (.cells cs t (0, 0))) (hj : cs[j]? = some v) : w.cell? ⟨b, j, none⟩ = some v := by
  unfold World.cell?; rw [h]; simp [hj]
theorem frozen_lit {w : World} {b t : Nat} {cs : Array Value} (h : w.heap[b]? = some (.cells cs t (0, 0))) (j : Nat) : w.frozen? ⟨b, j, none⟩ = false := by simp [World.frozen?, h]
theorem six_low {w : World} {b t : Nat} {x0 x1 x2 x3 x4 x5 u v z : Value} (h : w.heap[b]? = some (.cells #[x0, x1, x2, x3, x4, x5] t (0, 0))) : (((w.setCell ⟨b, 0, none⟩ u).setCell ⟨b, 1, none⟩ v).setCell ⟨b, 2, none⟩ z).heap[b]? = some (.cells #[u, v, z, x3, x4, x5] t (0, 0)) :=
  Lib.heap_setCell_same (i := 2) (Lib.heap_setCell_same (i := 1) (Lib.heap_setCell_same (i := 0) h u) v) z
theorem six_high {w : World} {b t : Nat} {x0 x1 x2 x3 x4 x5 u v z : Value} (h : w.heap[b]? = some (.cells #[x0, x1, x2, x3, x4, x5] t (0, 0))) : (((w.setCell ⟨b, 3, none⟩ u).setCell ⟨b, 4, none⟩ v).setCell ⟨b, 5, none⟩ z).heap[b]? = some (.cells #[x0, x1, x2, u, v, z] t (0, 0)) :=
  Lib.heap_setCell_same (i := 5) (Lib.heap_setCell_same (i := 4) (Lib.heap_setCell_same (i := 3) h u) v) z
theorem six_all {w : World} {b t : Nat} {x0 x1 x2 x3 x4 x5 y0 y1 y2 y3 y4 y5 : Value} (h : w.heap[b]? = some (.cells #[x0, x1, x2, x3, x4, x5] t (0, 0))) : ((((((w.setCell ⟨b, 0, none⟩ y0).setCell ⟨b, 1, none⟩ y1).setCell ⟨b, 2, none⟩ y2).setCell ⟨b, 3, none⟩ y3).setCell ⟨b, 4, none⟩ y4).setCell ⟨b, 5, none⟩ y5).heap[b]? = some (.cells #[y0, y1, y2, y3, y4, y5] t (0, 0)) :=
  Lib.heap_setCell_same (i := 5) (Lib.heap_setCell_same (i := 4) (Lib.heap_setCell_same (i := 3) (Lib.heap_setCell_same (i := 2) (Lib.heap_setCell_same (i := 1) (Lib.heap_setCell_same (i := 0) h y0) y1) y2) y3) y4) y5
theorem other_setH {W : World} {g k j : Nat} {o : Obj} (h : W.heap[k]? = some o) (hk : k ≠ g) (u : Value) : (W.setCell ⟨g, j, none⟩ u).heap[k]? = some o := other_set h hk u
theorem three_other {W : World} {g k j0 j1 j2 : Nat} {o : Obj} {u v z : Value} (h : W.heap[k]? = some o) (hk : k ≠ g) : (((W.setCell ⟨g, j0, none⟩ u).setCell ⟨g, j1, none⟩ v).setCell ⟨g, j2, none⟩ z).heap[k]? = some o :=
  other_set (other_set (other_set h hk u) hk v) hk z
theorem below_three {w W : World} {B g j0 j1 j2 : Nat} {u v z : Value} (h : Below B w W) (hg : B ≤ g) : Below B w (((W.setCell ⟨g, j0, none⟩ u).setCell ⟨g, j1, none⟩ v).setCell ⟨g, j2, none⟩ z) :=
  below_set (below_set (below_set h hg) hg) hg
set_option maxHeartbeats 8000000 in
set_option maxRecDepth 100000 in
theorem slots_any (d : Dev) (v : Value) (w : World) (h : DiskIs w d v) (hg : Disk11.Good d) (h8 : 8 ≤ d.1.length) (ht : Tab w) :
    Calls Tryz.prog 49 #[v, layV d.1.length] w fun e w' => e = .returned (.agg (foundC (lookS (slotS d 0) 0) ++ foundC (lookS (slotS d 1) 1))) ∧ Below w.heap.size w w' := by
  obtain ⟨q, hq⟩ : ∃ q, q = d.1.length / 4 := ⟨_, rfl⟩
  have hq4 : q ≤ 1024 := by have := hg.2.1; omega
  have hsl : slotN d.1.length = 64 * q := by unfold slotN; rw [hq]
  have r0 := read_slot hg 0 (by decide)
  have r1 := read_slot hg 1 (by decide)
  have l0 := slotS_length hg 0 (by decide)
  have l1 := slotS_length hg 1 (by decide)
  rw [hsl] at r0 r1 l0 l1
  rw [Nat.mul_zero] at r0
  rw [Nat.mul_one] at r1
  have e64 : ((64 * q : Nat) : Int) = 64 * (q : Int) := by omega
  rw [e64] at r0 r1
  obtain ⟨S0, hS0⟩ : ∃ S, S = slotS d 0 := ⟨_, rfl⟩
  obtain ⟨S1, hS1⟩ : ∃ S, S = slotS d 1 := ⟨_, rfl⟩
  rw [← hS0] at r0 l0 ⊢
  rw [← hS1] at r1 l1 ⊢
  have HR0 := Lib.hid (fun v W h => (Read_any d v 0 (64 * (q : Int)) W h))
  have HR1 := Lib.hid (fun v W h => (Read_any d v (64 * (q : Int)) (64 * (q : Int)) W h))
  rw [show readD d 0 (64 * (q : Int)) = (S0, 0) from r0] at HR0
  rw [r1] at HR1
  have HL0 := Lib.hid (fun W t => look_any S0 0 (by decide) (by omega) (by omega) W t)
  have HL1 := Lib.hid (fun W t => look_any S1 1 (by decide) (by omega) (by omega) W t)
  obtain ⟨a0, b0, c0, hf0⟩ := foundC_three (lookS S0 0)
  obtain ⟨a1, b1, c1, hf1⟩ := foundC_three (lookS S1 1)
  rw [hf0] at HL0 ⊢
  rw [hf1] at HL1 ⊢
  have hlv : layV d.1.length = .agg #[.int .i64 ((d.1.length / 4 : Nat) : Int), .int .i64 ((2 * (d.1.length / 4) : Nat) : Int), .int .i64 ((d.1.length - 2 * (d.1.length / 4) : Nat) : Int)] := rfl
  obtain ⟨x2, hx2⟩ : ∃ x, x = ((2 * (d.1.length / 4) : Nat) : Int) := ⟨_, rfl⟩
  obtain ⟨x3, hx3⟩ : ∃ x, x = ((d.1.length - 2 * (d.1.length / 4) : Nat) : Int) := ⟨_, rfl⟩
  rw [← hx2, ← hx3, ← hq] at hlv
  rw [hlv]
  obtain ⟨ab, cb, ac, cc, rfl, _, _, _, _⟩ := h.form
  have e0 := Go.Joins.below_alloc1 w (.cells #[.slice ab d.1.length cb, .slice ac d.2.length cc] 29)
  have kA := World.alloc_heap_new w (.cells #[.slice ab d.1.length cb, .slice ac d.2.length cc] 29)
  obtain ⟨WA, hWA⟩ : ∃ WA, w.alloc (.cells #[.slice ab d.1.length cb, .slice ac d.2.length cc] 29) = WA := ⟨_, rfl⟩
  have hsA : WA.heap.size = w.heap.size + 1 := by rw [← hWA]; simp
  rw [hWA] at e0 kA
  have e1 := Go.Joins.below_alloc1 WA (.cells #[.int .i64 (q : Int), .int .i64 x2, .int .i64 x3] 67)
  have kB := World.alloc_heap_new WA (.cells #[.int .i64 (q : Int), .int .i64 x2, .int .i64 x3] 67)
  obtain ⟨WB, hWB⟩ : ∃ WB, WA.alloc (.cells #[.int .i64 (q : Int), .int .i64 x2, .int .i64 x3] 67) = WB := ⟨_, rfl⟩
  have hsB : WB.heap.size = w.heap.size + 1 + 1 := by rw [← hWB]; simp [hsA]
  have kA2 := heap_below kA e1
  rw [hWB] at e1 kB kA2
  rw [hsA] at kB
  have eAB := e0.trans (e1.mono e0.size)
  obtain ⟨k3, k4, hsz, hbl⟩ := alloc2 WB (.cells #[.int .u64 0, .string ⟨#[]⟩, .bool false, .int .u64 0, .string ⟨#[]⟩, .bool false] 83) (.cells #[.int .u64 0, .string ⟨#[]⟩, .bool false, .int .u64 0, .string ⟨#[]⟩, .bool false] 83)
  rw [hsB] at k3 k4
  have h00 := Lib.hid h
  have kA3 := heap_below kA2 hbl
  have kB3 := heap_below kB hbl
  have hB := Lib.hid (eAB.trans (hbl.mono eAB.size))
  have hTb := Lib.hid ht
  clear h hbl hsz kA kA2 kB e0 e1 eAB hf0 hf1 hS0 hS1 r0 r1 l0 l1 hsl hlv hx2 hx3 hq ht hg h8
  go_enter Tryz.func49, Tryz.ntmps49
  go_wp2_with fail
  generalize hWg : ((WB.alloc (.cells #[.int .u64 0, .string ⟨#[]⟩, .bool false, .int .u64 0, .string ⟨#[]⟩, .bool false] 83)).alloc (.cells #[.int .u64 0, .string ⟨#[]⟩, .bool false, .int .u64 0, .string ⟨#[]⟩, .bool false] 83)) = W1 at *
  clear hWg hWA hWB
  have c0 := cell2_0 kA3
  have c1' := cell2_1 kA3
  have q0 := cell3_0 kB3
  refine wp_loop_rounds 3 ?_
  rw [rounds_succ]; go_wp2_with fail
  refine (HR0.out _ _ (h00.out.below hB.out)).mono ?_
  rintro e w2 ⟨rfl, b2⟩
  have B2 := Lib.hid (hB.out.trans (b2.mono hB.out.size))
  have kA4 := heap_below kA3 b2
  have kB4 := heap_below kB3 b2
  have k34 := heap_below k3 b2
  have k44 := heap_below k4 b2
  clear c0 c1' q0 kA3 kB3 k3 k4 b2
  go_wp2_with fail
  refine (HL0.out _ (hTb.out.below B2.out)).mono ?_
  rintro e w3 ⟨rfl, b3⟩
  have B3 := Lib.hid (B2.out.trans (b3.mono B2.out.size))
  have kA5 := heap_below kA4 b3
  have kB5 := heap_below kB4 b3
  have k35 := heap_below k34 b3
  have k45 := heap_below k44 b3
  clear kA4 kB4 k34 k44 b3
  have s0 := cell_lit (j := 0) k45 rfl
  have s1 := cell_lit (j := 1) k45 rfl
  have s2 := cell_lit (j := 2) k45 rfl
  have f0 := frozen_lit k45 0
  have f1 := frozen_lit k45 1
  have f2 := frozen_lit k45 2
  have k46 := six_low (u := .int .u64 a0) (v := .string b0) (z := .bool c0) k45
  have sz3 : w.heap.size + 1 + 1 + 1 < w3.heap.size := (Array.getElem?_eq_some_iff.1 k45).1
  have kA6 := three_other (g := w.heap.size + 1 + 1 + 1) (j0 := 0) (j1 := 1) (j2 := 2) (u := .int .u64 a0) (v := .string b0) (z := .bool c0) kA5 (by omega)
  have kB6 := three_other (g := w.heap.size + 1 + 1 + 1) (j0 := 0) (j1 := 1) (j2 := 2) (u := .int .u64 a0) (v := .string b0) (z := .bool c0) kB5 (by omega)
  have k36 := three_other (g := w.heap.size + 1 + 1 + 1) (j0 := 0) (j1 := 1) (j2 := 2) (u := .int .u64 a0) (v := .string b0) (z := .bool c0) k35 (by omega)
  have B6 := Lib.hid (below_three (j0 := 0) (j1 := 1) (j2 := 2) (u := .int .u64 a0) (v := .string b0) (z := .bool c0) B3.out (by omega : w.heap.size ≤ w.heap.size + 1 + 1 + 1))
  have m0 := cell2_0 kA6
  have m1 := cell2_1 kA6
  have q0 := cell3_0 kB6
  go_wp2_with fail
  rw [rounds_succ]; go_wp2_with fail
  generalize hWg : ((w3.setCell ⟨w.heap.size + 1 + 1 + 1, 0, none⟩ (.int .u64 a0)).setCell ⟨w.heap.size + 1 + 1 + 1, 1, none⟩ (.string b0)).setCell ⟨w.heap.size + 1 + 1 + 1, 2, none⟩ (.bool c0) = w6 at *
  clear hWg kA5 kB5 k35 k45 s0 s1 s2 f0 f1 f2 m0 m1 q0
  refine (HR1.out _ _ (h00.out.below B6.out)).mono ?_
  rintro e w7 ⟨rfl, b7⟩
  have B7 := Lib.hid (B6.out.trans (b7.mono B6.out.size))
  have k37 := heap_below k36 b7
  have k47 := heap_below k46 b7
  clear kA6 kB6 k36 k46 b7
  go_wp2_with fail
  refine (HL1.out _ (hTb.out.below B7.out)).mono ?_
  rintro e w8 ⟨rfl, b8⟩
  have B8 := Lib.hid (B7.out.trans (b8.mono B7.out.size))
  have k38 := heap_below k37 b8
  have k48 := heap_below k47 b8
  clear k37 k47 b8
  have s3 := cell_lit (j := 3) k48 rfl
  have s4 := cell_lit (j := 4) k48 rfl
  have s5 := cell_lit (j := 5) k48 rfl
  have f3 := frozen_lit k48 3
  have f4 := frozen_lit k48 4
  have f5 := frozen_lit k48 5
  have k49 := six_high (u := .int .u64 a1) (v := .string b1) (z := .bool c1) k48
  have k39 := three_other (g := w.heap.size + 1 + 1 + 1) (j0 := 3) (j1 := 4) (j2 := 5) (u := .int .u64 a1) (v := .string b1) (z := .bool c1) k38 (by omega)
  have B9 := Lib.hid (below_three (j0 := 3) (j1 := 4) (j2 := 5) (u := .int .u64 a1) (v := .string b1) (z := .bool c1) B8.out (by omega : w.heap.size ≤ w.heap.size + 1 + 1 + 1))
  go_wp2_with fail
  generalize hWg : ((w8.setCell ⟨w.heap.size + 1 + 1 + 1, 3, none⟩ (.int .u64 a1)).setCell ⟨w.heap.size + 1 + 1 + 1, 4, none⟩ (.string b1)).setCell ⟨w.heap.size + 1 + 1 + 1, 5, none⟩ (.bool c1) = w9 at *
  clear hWg s3 s4 s5 f3 f4 f5 k38 k48
  have t0 := cell_lit (j := 0) k49 rfl
  have t1 := cell_lit (j := 1) k49 rfl
  have t2 := cell_lit (j := 2) k49 rfl
  have t3 := cell_lit (j := 3) k49 rfl
  have t4 := cell_lit (j := 4) k49 rfl
  have t5 := cell_lit (j := 5) k49 rfl
  have u0 := cell_lit (j := 0) k39 rfl
  have u1 := cell_lit (j := 1) k39 rfl
  have u2 := cell_lit (j := 2) k39 rfl
  have u3 := cell_lit (j := 3) k39 rfl
  have u4 := cell_lit (j := 4) k39 rfl
  have u5 := cell_lit (j := 5) k39 rfl
  have g0 := frozen_lit k39 0
  have g1 := frozen_lit k39 1
  have g2 := frozen_lit k39 2
  have g3 := frozen_lit k39 3
  have g4 := frozen_lit k39 4
  have g5 := frozen_lit k39 5
  have kz := six_all (y0 := .int .u64 a0) (y1 := .string b0) (y2 := .bool c0) (y3 := .int .u64 a1) (y4 := .string b1) (y5 := .bool c1) k39
  rw [rounds_succ]; go_wp2
  exact bodyPost_ret (results_cellG rfl _ _ (w.heap.size + 1 + 1) _ _ _ _ rfl kz Tryz.underlying83 rfl (by kernel_rfl)) rfl ⟨rfl, below_three (below_three B9.out (by omega)) (by omega)⟩
end Go.Proofs.YtmfbkelhegdmpaaGreatDoor
/- The walk of the reference's snapshot, chapter 13 (snap). -/
namespace Go.Proofs.YtmfbkelhegdmpaaGreatDoor
open Go.RowKit Disk11 Journal12 Sum2

theorem look_zero {S : List UInt8} {i : Nat} {R : Nat × List UInt8} (h : R = lookS S i) (h2 : lookS S i = (0, [])) : R = (0, []) := h.trans h2
set_option maxHeartbeats 4000000 in
set_option maxRecDepth 100000 in
theorem Rsnapshot_any (d : Dev) (v : Value) (i : Nat) (hi : i < 2) (w : World) (h : DiskIs w d v) (hg : Disk11.Good d) (h8 : 8 ≤ d.1.length) :
    Calls Tryz.prog 58 #[v, .int .i64 (i : Int)] w fun e w' => e = .returned (.tuple #[.int .u64 ((lookS (slotS d i) i).1 : Nat), .string ⟨(lookS (slotS d i) i).2.toArray⟩]) ∧ Below w.heap.size w w' := by
  obtain ⟨q, hq⟩ : ∃ q, q = d.1.length / 4 := ⟨_, rfl⟩
  have hb4 := hg.2.1
  have hq4 : q ≤ 1024 ∧ 2 ≤ q := by omega
  have hsl : slotN d.1.length = 64 * q := by unfold slotN; rw [hq]
  have HS := Lib.hid (fun W => Rslot_any d.1.length hb4 W)
  rw [← hq] at HS
  have hrd := read_slot hg i hi
  have hln := slotS_length hg i hi
  rw [hsl] at hrd hln
  have e1 : ((64 * q * i : Nat) : Int) = 64 * (q : Int) * (i : Int) := by push_cast; rfl
  have e2 : ((64 * q : Nat) : Int) = 64 * (q : Int) := by omega
  rw [e1, e2] at hrd
  obtain ⟨S, hS⟩ : ∃ S, S = slotS d i := ⟨_, rfl⟩
  rw [← hS] at hrd hln ⊢
  have HR := Lib.hid (fun v W h => RRead_any d v (64 * (q : Int) * (i : Int)) (64 * (q : Int)) W h)
  rw [hrd] at HR
  have hwi : IntKind.i64.wrap (64 * (q : Int) * (i : Int)) = 64 * (q : Int) * (i : Int) := by
    rw [IntKind.wrap_i64]
    have : i = 0 ∨ i = 1 := by omega
    rcases this with rfl | rfl <;> simp <;> omega
  have hwj : wrap64 (64 * (q : Int) * (i : Int)) = 64 * (q : Int) * (i : Int) := by
    unfold wrap64
    have : i = 0 ∨ i = 1 := by omega
    rcases this with rfl | rfl <;> simp <;> omega
  obtain ⟨R, hR⟩ : ∃ R, R = lookS S i := ⟨_, rfl⟩
  rw [← hR]
  have hR' := Lib.hid hR
  have h17 : 17 ≤ S.length := by omega
  have hle : S.length ≤ 65536 := by omega
  obtain ⟨c, T, hT⟩ : ∃ c T, S = c :: T := by
    cases S with
    | nil => simp at h17
    | cons c T => exact ⟨c, T, rfl⟩
  have hTl : T.length = S.length - 1 := by rw [hT, List.length_cons]; omega
  have hd1 : S.drop 1 = T := by rw [hT]; rfl
  have hS9 : S.drop 9 = T.drop 8 := by rw [hT, List.drop_succ_cons]
  have hS13 : S.drop 13 = T.drop 12 := by rw [hT, List.drop_succ_cons]
  have hs0 : S[0]? = some c := by rw [hT]; rfl
  have z1 : (⟨S.toArray⟩ : ByteArray).size = S.length := rfl
  have hpos : 0 < S.length := by omega
  have hix : ((⟨S.toArray⟩ : ByteArray)[0]'hpos) = c := by subst hT; rfl
  obtain ⟨cn, hcn⟩ : ∃ cn, cn = c.toNat := ⟨_, rfl⟩
  obtain ⟨ab, cb, ac, cc, rfl, _, _, _, _⟩ := h.form
  have k1 := World.alloc_heap_new w (.cells #[.slice ab d.1.length cb, .slice ac d.2.length cc] 29)
  have hbl := Go.Joins.below_alloc1 w (.cells #[.slice ab d.1.length cb, .slice ac d.2.length cc] 29)
  have h0 := Lib.hid (h.below hbl)
  have hB := Lib.hid hbl
  have m0 := cell2_0 k1
  have m1 := cell2_1 k1
  have hSS := Lib.hid hS
  have hqq := Lib.hid hq
  have hix' := Lib.hid hix
  have hln' := Lib.hid hln
  clear h hbl hrd hln hsl hS hR hg h8 hq k1
  by_cases hc : c = 183
  · have hc0 : (((⟨S.toArray⟩ : ByteArray)[0]'hpos).toNat : Int) = 183 := by rw [hix, hc]; rfl
    subst hc
    obtain ⟨g, hg⟩ : ∃ g, g = numS ((S.drop 1).take 8) := ⟨_, rfl⟩
    obtain ⟨n, hn⟩ : ∃ n, n = numS ((S.drop 9).take 4) := ⟨_, rfl⟩
    have w1 := Lib.hid (fun W => Rnumber_any (T.take 8) (by rw [List.length_take]; omega) W)
    have w2 := Lib.hid (fun W => Rnumber_any ((T.drop 8).take 4) (by rw [List.length_take]; omega) W)
    have hg' := Lib.hid hg
    have hn' := Lib.hid hn
    rw [hd1] at hg
    rw [hS9] at hn
    rw [← hg] at w1
    rw [← hn] at w2
    have hs1 : ∀ W, (Instr.slice 9 (.string ⟨S.toArray⟩) (some (.int .i64 1)) none none).run Tryz.prog W = .ok (.string ⟨T.toArray⟩) W := fun W => by rw [← hd1]; exact sub_high S 1 (by omega) W
    have hs2 : ∀ W, (Instr.slice 9 (.string ⟨T.toArray⟩) none (some (.int .i64 8)) none).run Tryz.prog W = .ok (.string ⟨(T.take 8).toArray⟩) W := fun W => sub_low T 8 (by omega) W
    have hs3 : ∀ W, (Instr.slice 9 (.string ⟨T.toArray⟩) (some (.int .i64 8)) (some (.int .i64 12)) none).run Tryz.prog W = .ok (.string ⟨((T.drop 8).take 4).toArray⟩) W := fun W => sub_mid T 8 12 (by decide) (by omega) W
    obtain ⟨A8, hA8⟩ : ∃ A, A = T.take 8 := ⟨_, rfl⟩
    obtain ⟨A4, hA4⟩ : ∃ A, A = (T.drop 8).take 4 := ⟨_, rfl⟩
    rw [← hA8] at hs2 w1
    rw [← hA4] at hs3 w2
    obtain ⟨M, hM⟩ : ∃ M, M = S.length - 17 := ⟨_, rfl⟩
    have hMq : 64 * (q : Int) - 17 = (M : Int) := by
      have := hln'.out; omega
    have hM2 : M ≤ 65519 := by omega
    have hM3 : IntKind.u64.wrap (M : Int) = (M : Int) := by simp [IntKind.wrap, IntKind.bits, IntKind.signed]; omega
    have hTl3 : T.length ≤ 65535 := by omega
    have z2 : (⟨T.toArray⟩ : ByteArray).size = T.length := rfl
    have hTt := Lib.hid hd1
    have hMM := Lib.hid hM
    have h00 := Lib.hid hs0
    have hS13' := Lib.hid hS13
    have hTl' := Lib.hid hTl
    clear hA8 hA4 hg hn hT hd1 hM hS9 hS13 hs0 hTl hcn hix
    go_enter Tryz.func58, Tryz.ntmps58
    go_wp2_with fail
    refine (HS.out _).mono ?_
    rintro e u0 ⟨rfl, rfl⟩
    go_wp2_with fail
    refine (HR.out _ _ h0.out).mono ?_
    rintro e u2 ⟨rfl, y2⟩
    have U2 := Lib.hid (hB.out.trans (y2.mono hB.out.size))
    clear m0 m1 y2
    go_wp2_with fail
    go_region_held3 (fun _ => True) (exact trivial)
      (first
      | (go_at_call 102; have m2 := m1.out; refine (w2.out _).mono ?_; rintro e u4 ⟨rfl, rfl⟩)
      | (go_at_call 102; refine (w1.out _).mono ?_; rintro e u3 ⟨rfl, rfl⟩; have m1 := Lib.hid True.intro))
    by_cases d2 : g < 1
    · have d2' : decide ((g : Int) < 1) = true := by simp; omega
      have hr' := Lib.hid (look_zero hR'.out (look_bad (i := i) hg'.out hn'.out (by have := hMM.out; omega)))
      go_wp2
      exact bodyPost_ret (results_tmp2 rfl _ _ _) rfl ⟨by rw [hr'.out]; rfl, U2.out.drew⟩
    have d2' : decide ((g : Int) < 1) = false := by simp; omega
    by_cases d3 : 1099511627776 < g
    · have d3' : decide (1099511627776 < (g : Int)) = true := by simp; omega
      have hr' := Lib.hid (look_zero hR'.out (look_bad (i := i) hg'.out hn'.out (by have := hMM.out; omega)))
      go_wp2
      exact bodyPost_ret (results_tmp2 rfl _ _ _) rfl ⟨by rw [hr'.out]; rfl, U2.out.drew⟩
    have d3' : decide (1099511627776 < (g : Int)) = false := by simp; omega
    obtain ⟨r, hr⟩ : ∃ r, r = g % 2 := ⟨_, rfl⟩
    have ht2 : Int.tmod (g : Int) 2 = (r : Int) := by rw [Int.tmod_eq_emod_of_nonneg (by omega)]; omega
    have hr1 : r ≤ 1 := by omega
    by_cases d4 : ¬ r = i
    · have d4' : ((r : Int) != (i : Int)) = true := by simp; omega
      have d4n : ((g : Int) % 2 != (i : Int)) = true := by simp; omega
      have hr' := Lib.hid (look_zero hR'.out (look_bad (i := i) hg'.out hn'.out (by have := hMM.out; omega)))
      go_wp2
      exact bodyPost_ret (results_tmp2 rfl _ _ _) rfl ⟨by rw [hr'.out]; rfl, U2.out.drew⟩
    have d4' : ((r : Int) != (i : Int)) = false := by simp; omega
    have d4n : ((g : Int) % 2 != (i : Int)) = false := by simp; omega
    by_cases d1 : M < n
    · have d1' : decide ((M : Int) < (n : Int)) = true := by simp; omega
      have d1n : decide (M < n) = true := by simp; omega
      have hr' := Lib.hid (look_zero hR'.out (look_bad (i := i) hg'.out hn'.out (by have := hMM.out; omega)))
      go_wp2
      exact bodyPost_ret (results_tmp2 rfl _ _ _) rfl ⟨by rw [hr'.out]; rfl, U2.out.drew⟩
    have d1' : decide ((M : Int) < (n : Int)) = false := by simp; omega
    have d1n : decide (M < n) = false := by simp; omega
    have hn5 : n ≤ 65519 := by omega
    have hw16 : IntKind.i64.wrap (16 + (n : Int)) = 16 + (n : Int) := by rw [IntKind.wrap_i64]; omega
    have hwn : IntKind.i64.wrap (n : Int) = (n : Int) := by rw [IntKind.wrap_i64]; omega
    have h1 : ∀ W, (Instr.slice 9 (.string ⟨T.toArray⟩) (some (.int .i64 12)) (some (.int .i64 (12 + (n : Int)))) none).run Tryz.prog W = .ok (.string ⟨((T.drop 12).take n).toArray⟩) W := fun W => by
      have := sub_mid T 12 (12 + n) (by omega) (by have := hTl'.out; have := hMM.out; omega) W
      rw [show ((12 + n : Nat) : Int) = 12 + (n : Int) by omega, Nat.add_sub_cancel_left] at this
      exact this
    have h2 : ∀ W, (Instr.slice 9 (.string ⟨T.toArray⟩) none (some (.int .i64 (16 + (n : Int)))) none).run Tryz.prog W = .ok (.string ⟨(T.take (16 + n)).toArray⟩) W := fun W => by
      have := sub_low T (16 + n) (by have := hTl'.out; have := hMM.out; omega) W
      rw [show ((16 + n : Nat) : Int) = 16 + (n : Int) by omega] at this
      exact this
    obtain ⟨X, hX⟩ : ∃ X, X = (T.drop 12).take n := ⟨_, rfl⟩
    obtain ⟨Y, hY⟩ : ∃ Y, Y = T.take (16 + n) := ⟨_, rfl⟩
    have hXl : X.length ≤ 1000000 := by rw [hX, List.length_take]; omega
    have HFm := Lib.hid (fun W => Rform_any13 g X (by omega) hXl W)
    obtain ⟨Fm, hFm⟩ : ∃ F, F = formS g X := ⟨_, rfl⟩
    rw [← hX] at h1
    rw [← hY] at h2
    rw [← hFm] at HFm
    have e13 : (S.drop 13).take n = X := by rw [hS13'.out, hX]
    have e1 : (S.drop 1).take (16 + n) = Y := by rw [hTt.out, hY]
    by_cases he : Fm = Y
    · have he1 : (Fm == Y) = true := by rw [beq_iff_eq]; exact he
      have hr := look_yes (i := i) hg'.out hn'.out h00.out (by omega) (by omega) (by omega) (by have := hMM.out; omega) (by rw [e13, e1, ← hFm]; exact he)
      rw [e13] at hr
      have hr' := Lib.hid (hR'.out.trans hr)
      clear hr hX hY hXl hFm e13 e1 he d1 d2 d3 d4
      go_upto_region 10 with (fail)
      go_region_held3 (fun _ => True) (exact trivial)
        (first
        | (go_at_call 44; refine (HFm.out _).mono ?_; rintro e u ⟨rfl, y⟩
           have U9 := Lib.hid (U2.out.drew.drew.trans ((show Below u2.drew.drew.heap.size u2.drew.drew u from y).mono U2.out.size))))
      go_wp2
      exact bodyPost_ret (results_tmp2 rfl _ _ _) rfl ⟨by rw [hr'.out]; rfl, U9.out⟩
    · have he1 : (Fm == Y) = false := beq_eq_false_iff_ne.2 he
      have hr := look_diff (i := i) hg'.out hn'.out (by rw [e13, e1, ← hFm]; exact he)
      have hr' := Lib.hid (hR'.out.trans hr)
      clear hr hX hY hXl hFm e13 e1 he d1 d2 d3 d4
      go_upto_region 10 with (fail)
      go_region_held3 (fun _ => True) (exact trivial)
        (first
        | (go_at_call 44; refine (HFm.out _).mono ?_; rintro e u ⟨rfl, y⟩
           have U9 := Lib.hid (U2.out.drew.drew.trans ((show Below u2.drew.drew.heap.size u2.drew.drew u from y).mono U2.out.size))))
      go_wp2
      exact bodyPost_ret (results_tmp2 rfl _ _ _) rfl ⟨by rw [hr'.out]; rfl, U9.out⟩
  · have hcn2 : cn ≠ 183 := fun e => hc (by rw [← UInt8.toNat_inj, ← hcn, e]; rfl)
    have hc0 : (((⟨S.toArray⟩ : ByteArray)[0]'hpos).toNat : Int) = (cn : Int) := by rw [hix, hcn]
    have hc1 : ((cn : Int) != 183) = true := by simp; omega
    have hc2 : (cn != 183) = true := by simp; omega
    have hr' := Lib.hid (hR'.out.trans (look_none S i (by rw [hs0]; intro e; exact hc (Option.some.inj e))))
    clear hc hcn2 hix hT hd1 hS9 hS13 hs0 hTl hcn
    go_enter Tryz.func58, Tryz.ntmps58
    go_wp2_with fail
    refine (HS.out _).mono ?_
    rintro e u0 ⟨rfl, rfl⟩
    go_wp2_with fail
    refine (HR.out _ _ h0.out).mono ?_
    rintro e u2 ⟨rfl, y2⟩
    have U2 := Lib.hid (hB.out.trans (y2.mono hB.out.size))
    clear m0 m1 y2
    go_wp2
    exact bodyPost_ret (results_tmp2 rfl _ _ _) rfl ⟨by rw [hr'.out]; rfl, U2.out⟩
end Go.Proofs.YtmfbkelhegdmpaaGreatDoor
