/- Texts of small laws, one behind the other. -/
import Derived.Test.YtmfbkelhegdmpaaGreatDoorSnapAK
import Derived.Test.YtmfbkelhegdmpaaGreatDoorDiskAW
import Derived.Test.YtmfbkelhegdmpaaGreatDoorSnapCG
import Derived.Test.YtmfbkelhegdmpaaGreatDoorJournalBD
/- The walks of the reference's slot, region, Capacity and check, and of the program's write, chapter 13 (snap). -/
namespace Go.Proofs.YtmfbkelhegdmpaaGreatDoor
open Go.RowKit Disk11 Journal12 Sum2

set_option maxHeartbeats 1000000 in
set_option maxRecDepth 100000 in
theorem Rslot_any (b : Nat) (hb : b ≤ 4096) (w : World) : Calls Tryz.prog 37 #[.int .i64 (b : Int)] w fun e w' => e = .returned (.int .i64 ((b / 4 : Nat) : Int)) ∧ w' = w := by
  have ht : Int.tdiv (b : Int) 4 = ((b / 4 : Nat) : Int) := by rw [Int.tdiv_eq_ediv_of_nonneg (by omega)]; omega
  obtain ⟨q, hq⟩ : ∃ q, q = b / 4 := ⟨_, rfl⟩
  have hq4 : q ≤ 1024 := by omega
  rw [← hq] at ht ⊢
  clear hq
  go_enter Tryz.func37, Tryz.ntmps37
  go_wp2
  go_ret
  exact ⟨rfl, rfl⟩
/-- The region of the log. -/
abbrev logRegV (b : Nat) : Value := .agg #[.int .i64 ((2 * (b / 4) : Nat) : Int), .int .i64 ((b - 2 * (b / 4) : Nat) : Int)]
set_option maxHeartbeats 1000000 in
set_option maxRecDepth 100000 in
theorem Rregion_any (b : Nat) (hb : b ≤ 4096) (w : World) : Calls Tryz.prog 59 #[.int .i64 (b : Int)] w fun e w' => e = .returned (logRegV b) ∧ Below w.heap.size w w' := by
  have HS := Lib.hid (fun W => Rslot_any b hb W)
  obtain ⟨q, hq⟩ : ∃ q, q = b / 4 := ⟨_, rfl⟩
  have hq4 : q ≤ 1024 := by omega
  have e1 : logRegV b = .agg #[.int .i64 (2 * (q : Int)), .int .i64 ((b : Int) - 2 * (q : Int))] := by
    unfold logRegV
    rw [← hq, show ((2 * q : Nat) : Int) = 2 * (q : Int) by omega, show ((b - 2 * q : Nat) : Int) = (b : Int) - 2 * (q : Int) by omega]
  rw [← hq] at HS
  have k1 := World.alloc_heap_new w (.cells #[.int .i64 (2 * (q : Int)), .int .i64 ((b : Int) - 2 * (q : Int))] 65)
  have hbl := Go.Joins.below_alloc1 w (.cells #[.int .i64 (2 * (q : Int)), .int .i64 ((b : Int) - 2 * (q : Int))] 65)
  rw [e1]
  clear hq e1
  go_enter Tryz.func59, Tryz.ntmps59
  go_wp2_with fail
  refine (HS.out _).mono ?_
  rintro e w1 ⟨rfl, rfl⟩
  go_wp2_with fail
  refine (HS.out _).mono ?_
  rintro e w1 ⟨rfl, rfl⟩
  go_wp2
  exact bodyPost_ret (results_cellS rfl _ _ w.heap.size _ _ _ _ rfl k1 Tryz.underlying65 rfl (by kernel_rfl)) rfl ⟨rfl, hbl⟩
set_option maxHeartbeats 1000000 in
set_option maxRecDepth 100000 in
theorem RCapacity_any (b : Int) (hb : I64 b) (w : World) : Calls Tryz.prog 12 #[.int .i64 b] w fun e w' => e = .returned (.tuple #[.int .i64 (capS b).1, .int .i64 (capS b).2]) ∧ w' = w := by
  by_cases h1 : b < 8
  · have e : capS b = (0, 2) := by unfold capS; rw [if_pos (.inl h1)]
    have h1' : decide (b < 8) = true := by simpa using h1
    rw [e]
    go_enter Tryz.func12, Tryz.ntmps12
    go_wp2
    exact bodyPost_ret (results_tmp2 rfl _ _ _) rfl ⟨rfl, rfl⟩
  have h1' : decide (b < 8) = false := by simp; omega
  by_cases h2 : 4096 < b
  · have e : capS b = (0, 2) := by unfold capS; rw [if_pos (.inr h2)]
    have h2' : decide (4096 < b) = true := by simpa using h2
    rw [e]
    go_enter Tryz.func12, Tryz.ntmps12
    go_wp2
    exact bodyPost_ret (results_tmp2 rfl _ _ _) rfl ⟨rfl, rfl⟩
  have h2' : decide (4096 < b) = false := by simp; omega
  obtain ⟨n, rfl⟩ : ∃ n : Nat, b = (n : Int) := ⟨b.toNat, by omega⟩
  have HS := Lib.hid (fun W => Rslot_any n (by omega) W)
  obtain ⟨q, hq⟩ : ∃ q, q = n / 4 := ⟨_, rfl⟩
  have hq4 : q ≤ 1024 ∧ 2 ≤ q := by omega
  have e : capS (n : Int) = (64 * (q : Int) - 17, 0) := by
    unfold capS
    rw [if_neg (by omega), hq]
    congr 1
  rw [e]
  rw [← hq] at HS
  clear hq e
  go_enter Tryz.func12, Tryz.ntmps12
  go_wp2_with fail
  refine (HS.out _).mono ?_
  rintro e w1 ⟨rfl, rfl⟩
  go_wp2
  exact bodyPost_ret (results_tmp2 rfl _ _ _) rfl ⟨rfl, rfl⟩
set_option maxHeartbeats 4000000 in
set_option maxRecDepth 100000 in
theorem Rcheck_any13 (d : Dev) (v : Value) (g : Nat) (p : Int) (w : World) (h : DiskIs w d v) :
    Calls Tryz.prog 67 #[v, logV g p] w fun e w' => e = .returned (.int .i64 (checkS d (g, p) : Nat)) ∧ Below w.heap.size w w' := by
  have HO := Lib.hid (fun W h => RCheck_any d v W h)
  have HN := Lib.hid (fun W (hb : d.1.length ≤ 4096) => Rregion_any d.1.length hb W)
  obtain ⟨x2, hx2⟩ : ∃ x, x = ((2 * (d.1.length / 4) : Nat) : Int) := ⟨_, rfl⟩
  obtain ⟨x3, hx3⟩ : ∃ x, x = ((d.1.length - 2 * (d.1.length / 4) : Nat) : Int) := ⟨_, rfl⟩
  have he : logRegV d.1.length = .agg #[.int .i64 ((2 * (d.1.length / 4) : Nat) : Int), .int .i64 ((d.1.length - 2 * (d.1.length / 4) : Nat) : Int)] := rfl
  rw [← hx2, ← hx3] at he
  rw [he] at HN
  have hX := Lib.hid hx3
  have hfld : ∀ W : World, (Instr.field 65 (.agg #[.int .i64 x2, .int .i64 x3]) 1).run Tryz.prog W = .ok (.int .i64 x3) W := fun W => by kernel_rfl
  clear he hx2 hx3
  obtain ⟨c, hc⟩ : ∃ c, c = chk d := ⟨_, rfl⟩
  rw [← hc] at HO
  obtain ⟨C, hC⟩ : ∃ C, C = checkS d (g, p) := ⟨_, rfl⟩
  rw [← hC]
  have hC' := Lib.hid hC
  obtain ⟨ab, cb, ac, cc, rfl, _, _, _, _⟩ := h.form
  obtain ⟨k1, k2, hsz, hbl⟩ := alloc2 w (.cells #[.slice ab d.1.length cb, .slice ac d.2.length cc] 29) (.cells #[.int .u64 (g : Int), .int .i64 p] 32)
  have h0 := h.below hbl
  have hB := Lib.hid hbl
  clear h hbl hsz hC
  go_enter Tryz.func67, Tryz.ntmps67
  go_upto_region 1 with (fail)
  generalize hW1 : ((w.alloc (.cells #[.slice ab d.1.length cb, .slice ac d.2.length cc] 29)).alloc (.cells #[.int .u64 (g : Int), .int .i64 p] 32)) = W1 at *
  clear hW1
  have c0 := cell2_0 k1
  have c1 := cell2_1 k1
  go_wp2_with fail
  refine (HO.out _ h0).mono ?_
  rintro e w2 ⟨rfl, b2⟩
  have B2 := Lib.hid (hB.out.trans (b2.mono hB.out.size))
  have k1' := heap_below k1 b2
  have k2' := heap_below k2 b2
  have d0 := cell2_0 k1'
  have d1 := cell2_1 k1'
  have g0 := cell2_0 k2'
  have g1 := cell2_1 k2'
  clear c0 c1 k1 k2 k1' k2' h0 b2
  by_cases hk : c.1 = 0
  · have hk0 : ((c.1 : Int) != 0) = false := by simp; exact hk
    have hg : Disk11.Good d := (chk_good d).1 (chk_ok (by rw [← hc]; exact hk))
    have hb4 : d.1.length ≤ 4096 := hg.2.1
    have hc' := Lib.hid hc
    have hk' := Lib.hid hk
    clear hc hk hg
    go_upto_region 4 with (fail)
    by_cases h8 : d.1.length < 8
    · have h8' : decide ((d.1.length : Int) < 8) = true := by simp; omega
      have hz : C = 2 := by
        rw [hC'.out]; unfold checkS
        rw [← hc'.out, if_neg (by rw [hk'.out]; simp), if_pos (.inl h8)]
      go_quiet (fail)
      go_wp2
      go_ret
      exact ⟨by rw [hz]; rfl, below_drewN B2.out nq⟩
    have h8' : decide ((d.1.length : Int) < 8) = false := by simp; omega
    have ho := Lib.hid (show openN d = 0 by unfold openN; rw [← hc'.out, if_neg (by rw [hk'.out]; simp), if_neg h8])
    by_cases e1 : g < 1
    · have e1' : decide ((g : Int) < 1) = true := by simp; omega
      go_quiet (fail)
      have hc := check_two (l := (g, p)) ho.out (.inl e1)
      go_wp2
      go_ret
      exact ⟨by rw [hC'.out, hc]; rfl, below_drewN B2.out nq⟩
    have e1' : decide ((g : Int) < 1) = false := by simp; omega
    by_cases e2 : 1099511627776 < g
    · have e2' : decide (1099511627776 < (g : Int)) = true := by simp; omega
      go_quiet (fail)
      have hc := check_two (l := (g, p)) ho.out (.inr (.inl e2))
      go_wp2
      go_ret
      exact ⟨by rw [hC'.out, hc]; rfl, below_drewN B2.out nq⟩
    have e2' : decide (1099511627776 < (g : Int)) = false := by simp; omega
    by_cases e3 : p < 0
    · have e3' : decide (p < 0) = true := by simp; omega
      go_quiet (fail)
      have hc := check_two (l := (g, p)) ho.out (.inr (.inr (.inl e3)))
      go_wp2
      go_ret
      exact ⟨by rw [hC'.out, hc]; rfl, below_drewN B2.out nq⟩
    have e3' : decide (p < 0) = false := by simp; omega
    have hx : (regS d.1.length).2 = x3 := hX.out.symm
    have hx4 : 0 ≤ x3 ∧ x3 ≤ 4096 := by have := hX.out; omega
    have hw64 : IntKind.i64.wrap (64 * x3) = 64 * x3 := by rw [IntKind.wrap_i64]; omega
    have i1 := Lib.hid (show 1 ≤ g by omega)
    have i2 := Lib.hid (show g ≤ 1099511627776 by omega)
    have i3 := Lib.hid (show 0 ≤ p by omega)
    have hx' := Lib.hid hx
    clear e1 e2 e3 hx h8
    by_cases e4 : 64 * x3 < p
    · have e4' : decide (64 * x3 < p) = true := by simp; omega
      have hc := Lib.hid (check_two (l := (g, p)) ho.out (.inr (.inr (.inr (by rw [hx'.out]; exact e4)))))
      clear e4
      go_region_held3 (fun V => V.cell? ⟨w.heap.size, 0, none⟩ = some (.slice ab d.1.length cb) ∧ V.cell? ⟨w.heap.size, 1, none⟩ = some (.slice ac d.2.length cc) ∧ V.cell? ⟨w.heap.size + 1, 0, none⟩ = some (.int .u64 (g : Int)) ∧ V.cell? ⟨w.heap.size + 1, 1, none⟩ = some (.int .i64 p))
        (first | exact ⟨d0, d1, g0, g1⟩ | exact ⟨o0, o1, o2, o3⟩ | go_keep)
        (first
        | (go_at_call 59; refine (HN.out _ hb4).mono ?_; rintro e u ⟨rfl, yb⟩
           have o0 := cell_below yb (show w2.drew.cell? _ = _ from d0); have o1 := cell_below yb (show w2.drew.cell? _ = _ from d1); have o2 := cell_below yb (show w2.drew.cell? _ = _ from g0); have o3 := cell_below yb (show w2.drew.cell? _ = _ from g1)
           have U := Lib.hid (B2.out.drew.trans ((show Below w2.drew.heap.size w2.drew u from yb).mono B2.out.size))))
      go_wp2
      go_ret
      exact ⟨by rw [hC'.out, hc.out]; rfl, U.out⟩
    · have e4' : decide (64 * x3 < p) = false := by simp; omega
      have hc := Lib.hid (check_zero (l := (g, p)) ho.out i1.out i2.out i3.out (by rw [hx'.out]; show p ≤ 64 * x3; omega))
      clear e4
      go_region_held3 (fun V => V.cell? ⟨w.heap.size, 0, none⟩ = some (.slice ab d.1.length cb) ∧ V.cell? ⟨w.heap.size, 1, none⟩ = some (.slice ac d.2.length cc) ∧ V.cell? ⟨w.heap.size + 1, 0, none⟩ = some (.int .u64 (g : Int)) ∧ V.cell? ⟨w.heap.size + 1, 1, none⟩ = some (.int .i64 p))
        (first | exact ⟨d0, d1, g0, g1⟩ | exact ⟨o0, o1, o2, o3⟩ | go_keep)
        (first
        | (go_at_call 59; refine (HN.out _ hb4).mono ?_; rintro e u ⟨rfl, yb⟩
           have o0 := cell_below yb (show w2.drew.cell? _ = _ from d0); have o1 := cell_below yb (show w2.drew.cell? _ = _ from d1); have o2 := cell_below yb (show w2.drew.cell? _ = _ from g0); have o3 := cell_below yb (show w2.drew.cell? _ = _ from g1)
           have U := Lib.hid (B2.out.drew.trans ((show Below w2.drew.heap.size w2.drew u from yb).mono B2.out.size))))
      go_wp2
      go_ret
      exact ⟨by rw [hC'.out, hc.out]; rfl, U.out⟩
  · have hk0 : ((c.1 : Int) != 0) = true := by simp; exact hk
    have hz : C = c.1 := by
      rw [hC'.out]; unfold checkS
      rw [← hc, if_pos hk]
    subst hz
    clear hc hk
    go_wp2
    go_ret
    exact ⟨rfl, B2.out⟩
theorem other_set2 {W : World} {g k j j' : Nat} {o : Obj} {u u' : Value} (hk : k ≠ g) (h : W.heap[k]? = some o) : ((W.setCell ⟨g, j, none⟩ u).setCell ⟨g, j', none⟩ u').heap[k]? = some o :=
  ((grown_cell _ g j' u').block k (by have := (grown_cell W g j u).size; have := (Array.getElem?_eq_some_iff.1 h).1; omega) (fun e => hk (by cases e; rfl))).trans (((grown_cell W g j u).block k (Array.getElem?_eq_some_iff.1 h).1 (fun e => hk (by cases e; rfl))).trans h)
set_option maxHeartbeats 4000000 in
set_option maxRecDepth 100000 in
theorem write_any13 (d : Dev) (v : Value) (p : Int) (x : List UInt8) (w : World) (h : DiskIs w d v) :
    Calls Tryz.prog 69 #[v, .int .i64 p, .string ⟨x.toArray⟩] w (Ends (writeD d p x).2 w.heap.size w fun e w' => ∃ v', e = .returned v' ∧ DiskIs w' (writeD d p x).1 v' ∧ Below w.heap.size w w') := by
  have HW := Lib.hid (fun W h => Write_any d v p x W h)
  have HM := Lib.hid (fun W => must_ok W)
  have HF := Lib.hid (fun k hk W => must_fail k hk W)
  obtain ⟨r, hr⟩ : ∃ r, r = writeD d p x := ⟨_, rfl⟩
  rw [← hr] at HW ⊢
  obtain ⟨ab, cb, ac, cc, rfl, _, _, _, _⟩ := h.form
  obtain ⟨k1, k2, hsz, hbl⟩ := alloc2 w (.cells #[.slice ab d.1.length cb, .slice ac d.2.length cc] 29) (.cells #[.slice none 0 0, .slice none 0 0] 29)
  have h0 := h.below hbl
  have hB := Lib.hid hbl
  clear h hbl hsz hr
  go_enter Tryz.func69, Tryz.ntmps69
  go_upto_region 1 with (fail)
  generalize hW1 : ((w.alloc (.cells #[.slice ab d.1.length cb, .slice ac d.2.length cc] 29)).alloc (.cells #[.slice none 0 0, .slice none 0 0] 29)) = W1 at *
  clear hW1
  have c0 := cell2_0 k1
  have c1 := cell2_1 k1
  go_wp2_with fail
  refine (HW.out _ h0).mono ?_
  rintro e w2 ⟨v', rfl, hd, b2⟩
  have B2 := Lib.hid (hB.out.trans (b2.mono hB.out.size))
  have k1' := heap_below k1 b2
  have k2' := heap_below k2 b2
  clear c0 c1 k1 k2 h0 b2
  obtain ⟨a1, n1, a2, n2, rfl, _⟩ := hd.form
  have f0 := frozen2 k1' 0
  have f1 := frozen2 k1' 1
  have d0 := cell2_0 k1'
  have d1 := cell2_1 k1'
  have k3 := set_two (x' := .slice a1 r.1.1.length n1) (y' := .slice a2 r.1.2.length n2) k1'
  have k4 := other_set2 (j := 0) (j' := 1) (u := .slice a1 r.1.1.length n1) (u' := .slice a2 r.1.2.length n2) (by omega : w.heap.size + 1 ≠ w.heap.size) k2'
  have B3 := Lib.hid (below_set (j := 1) (u := .slice a2 r.1.2.length n2) (below_set (j := 0) (u := .slice a1 r.1.1.length n1) B2.out (Nat.le_refl _)) (Nat.le_refl _))
  have hd3 := disk_apart (j := 1) (u := .slice a2 r.1.2.length n2) (disk_apart (j := 0) (u := .slice a1 r.1.1.length n1) hd k1') (Lib.heap_setCell_same (i := 0) k1' _)
  by_cases hk : r.2 = 0
  · have hk0 : (r.2 : Int) = 0 := by omega
    rw [hk0]
    have hk' := Lib.hid hk
    clear hk hk0
    go_wp2_with fail
    refine (HM.out _).mono ?_
    rintro e w3 ⟨rfl, rfl⟩
    generalize hWg : (w2.setCell ⟨w.heap.size, 0, none⟩ (.slice a1 r.1.1.length n1)).setCell ⟨w.heap.size, 1, none⟩ (.slice a2 r.1.2.length n2) = w4 at *
    clear hWg f0 f1 d0 d1 k1' k2' hd
    have l0 := cell2_0 k3
    have l1 := cell2_1 k3
    have g0 := frozen2 k4 0
    have g1 := frozen2 k4 1
    have m0 := cell2_0 k4
    have m1 := cell2_1 k4
    have k5 := set_two (x' := .slice a1 r.1.1.length n1) (y' := .slice a2 r.1.2.length n2) k4
    have hd5 := disk_apart (j := 1) (u := .slice a2 r.1.2.length n2) (disk_apart (j := 0) (u := .slice a1 r.1.1.length n1) hd3 k4) (Lib.heap_setCell_same (i := 0) k4 _)
    go_wp2
    exact bodyPost_ret (results_cellS rfl _ _ (w.heap.size + 1) _ _ _ _ rfl k5 Tryz.underlying29 rfl (by kernel_rfl)) rfl (.inl ⟨hk'.out, _, rfl, hd5, below_set (below_set B3.out (by omega)) (by omega)⟩)
  · have hk' := Lib.hid hk
    go_wp2_with fail
    refine (HF.out r.2 hk _).mono ?_
    rintro e w3 ⟨rfl, rfl⟩
    clear hk
    go_wp2
    exact ⟨rfl, .inr ⟨hk'.out, rfl, B3.out⟩⟩
end Go.Proofs.YtmfbkelhegdmpaaGreatDoor
/- The walk of the program's Room, chapter 13 (snap). -/
namespace Go.Proofs.YtmfbkelhegdmpaaGreatDoor
open Go.RowKit Disk11 Journal12 Sum2

theorem regS_eq' (b : Nat) : regS b = (((2 * (b / 4) : Nat) : Int), ((b - 2 * (b / 4) : Nat) : Int)) := rfl
theorem check_ok {d : Dev} {g : Nat} {p : Int} (h : checkS d (g, p) = 0) : Disk11.Good d ∧ 8 ≤ d.1.length ∧ 1 ≤ g ∧ g ≤ 1099511627776 ∧ 0 ≤ p ∧ p ≤ 64 * (regS d.1.length).2 := by
  unfold checkS at h
  by_cases h1 : (chk d).1 ≠ 0
  · rw [if_pos h1] at h; exact absurd h h1
  · rw [if_neg h1] at h
    by_cases h2 : d.1.length < 8 ∨ (g, p).1 < 1 ∨ 1099511627776 < (g, p).1 ∨ (g, p).2 < 0 ∨ 64 * (regS d.1.length).2 < (g, p).2
    · rw [if_pos h2] at h; cases h
    · dsimp only at h2
      refine ⟨(chk_good d).1 (chk_ok (Decidable.not_not.1 h1)), ?_, ?_, ?_, ?_, ?_⟩ <;> omega
theorem room_ok {d : Dev} {g : Nat} {p : Int} (h : checkS d (g, p) = 0) : (roomJ (regS d.1.length) p).2 = 0 ∧ 0 ≤ (roomJ (regS d.1.length) p).1 ∧ (roomJ (regS d.1.length) p).1 ≤ 60000 := by
  obtain ⟨hg, h8, _, _, h3, h4⟩ := check_ok h
  have hb := hg.2.1
  rw [regS_eq'] at h4 ⊢
  unfold roomJ
  dsimp only at h4 ⊢
  rw [if_neg (by omega)]
  refine ⟨rfl, ?_, ?_⟩ <;> (dsimp only; omega)
set_option maxHeartbeats 4000000 in
set_option maxRecDepth 100000 in
theorem Room_any13 (d : Dev) (v : Value) (g : Nat) (p : Int) (w : World) (hg64 : g < 18446744073709551616) (h : DiskIs w d v) :
    Calls Tryz.prog 25 #[v, logV g p] w fun e w' => e = .returned (.tuple #[.int .i64 (roomS d (g, p)).1, .int .i64 (roomS d (g, p)).2]) ∧ Below w.heap.size w w' := by
  have HO := Lib.hid (fun W h => opened_any d v g p W h)
  have HM := Lib.hid (fun W => must_ok W)
  have HS := Lib.hid (fun W => Size_any13 g hg64 W)
  obtain ⟨C, hC⟩ : ∃ C, C = checkS d (g, p) := ⟨_, rfl⟩
  rw [← hC] at HO
  have hC' := Lib.hid hC
  have hR : roomS d (g, p) = if C ≠ 0 then (0, C) else (max (-1) ((roomJ (regS d.1.length) p).1 - ((putN g).length : Int)), 0) := by unfold roomS; rw [← hC]
  obtain ⟨R, hR2⟩ : ∃ R, R = roomS d (g, p) := ⟨_, rfl⟩
  rw [← hR2] at hR ⊢
  clear hC hR2
  have he : layV d.1.length = .agg #[.int .i64 ((d.1.length / 4 : Nat) : Int), .int .i64 ((2 * (d.1.length / 4) : Nat) : Int), .int .i64 ((d.1.length - 2 * (d.1.length / 4) : Nat) : Int)] := rfl
  obtain ⟨x1, hx1⟩ : ∃ x, x = ((d.1.length / 4 : Nat) : Int) := ⟨_, rfl⟩
  obtain ⟨x2, hx2⟩ : ∃ x, x = ((2 * (d.1.length / 4) : Nat) : Int) := ⟨_, rfl⟩
  obtain ⟨x3, hx3⟩ : ∃ x, x = ((d.1.length - 2 * (d.1.length / 4) : Nat) : Int) := ⟨_, rfl⟩
  have hreg : regS d.1.length = (x2, x3) := by rw [hx2, hx3]; rfl
  rw [← hx1, ← hx2, ← hx3] at he
  rw [he] at HO
  rw [hreg] at hR
  have hR' := Lib.hid hR
  have hreg' := Lib.hid hreg
  clear he hx1 hx2 hx3 hreg hR
  obtain ⟨ab, cb, ac, cc, rfl, _, _, _, _⟩ := h.form
  have e0 := Go.Joins.below_alloc1 w (.cells #[.slice ab d.1.length cb, .slice ac d.2.length cc] 29)
  have kA := World.alloc_heap_new w (.cells #[.slice ab d.1.length cb, .slice ac d.2.length cc] 29)
  obtain ⟨k1, k2, hsz, hbl⟩ := alloc2 (w.alloc (.cells #[.slice ab d.1.length cb, .slice ac d.2.length cc] 29)) (.cells #[.int .u64 (g : Int), .int .i64 p] 32) (.cells #[.int .i64 0] 23)
  have kD := heap_below kA hbl
  rw [show (w.alloc (.cells #[.slice ab d.1.length cb, .slice ac d.2.length cc] 29)).heap.size = w.heap.size + 1 by simp] at k1 k2
  have hB := Lib.hid (e0.trans (hbl.mono e0.size))
  have h0 := Lib.hid h
  clear h hbl hsz kA e0
  go_enter_defers Tryz.func25, Tryz.ntmps25
  go_upto_region 2 with (fail)
  generalize hW1 : (((w.alloc (.cells #[.slice ab d.1.length cb, .slice ac d.2.length cc] 29)).alloc (.cells #[.int .u64 (g : Int), .int .i64 p] 32)).alloc (.cells #[.int .i64 0] 23)) = W1 at *
  clear hW1
  have c0 := cell2_0 kD
  have c1 := cell2_1 kD
  have l0 := cell2_0 k1
  have l1 := cell2_1 k1
  go_wp2_with fail
  refine (HO.out _ (h0.out.below hB.out)).mono ?_
  rintro e w2 (⟨ho, rfl, hgd, b2⟩ | ⟨ho, rfl, b2⟩)
  · have B2 := Lib.hid (hB.out.trans (b2.mono hB.out.size))
    have k1' := heap_below k1 b2
    have k2' := heap_below k2 b2
    have hr := hR'.out
    rw [if_neg (by rw [ho]; simp)] at hr

    have hok := room_ok (d := d) (g := g) (p := p) (by rw [← hC'.out]; exact ho)
    rw [hreg'.out] at hok
    obtain ⟨n, hn⟩ : ∃ n, n = (roomJ (x2, x3) p).1 := ⟨_, rfl⟩
    have HJ := Lib.hid (fun W => Room_any x2 x3 p W)
    rw [hok.1, ← hn] at HJ
    rw [← hn] at hok hr
    obtain ⟨s, hs⟩ : ∃ s, s = (putN g).length := ⟨_, rfl⟩
    have hs10 : s ≤ 10 := by rw [hs]; exact putN_le g hg64
    rw [← hs] at hr HS
    have hr' := Lib.hid hr
    have hn0 : 0 ≤ n := hok.2.1
    have hn1 : n ≤ 60000 := hok.2.2
    have hn' := Lib.hid hn
    have a3 := Go.Joins.below_alloc1 w2 (.cells #[.int .i64 x1, .int .i64 x2, .int .i64 x3] 67)
    have k3 := World.alloc_heap_new w2 (.cells #[.int .i64 x1, .int .i64 x2, .int .i64 x3] 67)
    have q1 := heap_below k1' a3
    have q2 := heap_below k2' a3
    have B3 := Lib.hid (B2.out.trans (a3.mono B2.out.size))
    clear hr hok hn hs c0 c1 l0 l1 kD k1 k2 k1' k2' a3 b2 ho hgd
    go_upto_region 3 with (fail)
    generalize hW3 : (w2.alloc (.cells #[.int .i64 x1, .int .i64 x2, .int .i64 x3] 67)) = W3 at *
    clear hW3
    have y1 := cell3_1 k3
    have y2 := cell3_2 k3
    have g1 := cell2_1 q1
    go_wp2_with fail
    refine (HJ.out _).mono ?_
    rintro e w4 ⟨rfl, b4⟩
    have q14 := heap_below q1 b4
    have q24 := heap_below q2 b4
    have B4 := Lib.hid (B3.out.trans (b4.mono B3.out.size))
    clear y1 y2 g1 q1 q2 k3 b4
    go_wp2_with fail
    refine (HM.out _).mono ?_
    rintro e w5 ⟨rfl, rfl⟩
    have g0 := cell2_0 q14
    go_wp2_with fail
    refine (HS.out _).mono ?_
    rintro e w6 ⟨rfl, b6⟩
    have q26 := heap_below q24 b6
    have B6 := Lib.hid (B4.out.trans (b6.mono B4.out.size))
    have ec := cell1 q26
    have ef := frozen1 q26
    clear g0 q14 q24 b6
    go_wp2
    all_goals
      refine leaves_cons (f := 46) (args := #[.pointer (some ⟨w.heap.size + 1 + 1, 0, none⟩)]) (by simp) (by simp [go_sem]) ?_
      refine (given_idle ⟨w.heap.size + 1 + 1, 0, none⟩ _).mono ?_
      rintro e u' w'' ⟨rfl, rfl, rfl⟩
      refine ⟨_, results_tc rfl _ _ _ _ _ rfl rfl (load_errno (cell1 (Lib.heap_setCell_same (i := 0) q26 _))), ?_, below_set B6.out (by omega)⟩
      rw [hr'.out]
      first
        | (rw [show max (-1) (n - (s : Int)) = -1 by omega]; rfl)
        | (rw [show max (-1) (n - (s : Int)) = n - (s : Int) by omega]; rfl)
  · have B2 := Lib.hid (hB.out.trans (b2.mono hB.out.size))
    have k2' := heap_below k2 b2
    have hr := hR'.out
    rw [if_pos ho] at hr
    have hr' := Lib.hid hr
    have ec := cell1 k2'
    have ef := frozen1 k2'
    clear hr
    go_wp2
    refine leaves_cons (f := 46) (args := #[.pointer (some ⟨w.heap.size + 1 + 1, 0, none⟩)]) (by simp) (by simp [go_sem]) ?_
    refine (given_fault ⟨w.heap.size + 1 + 1, 0, none⟩ C _ [] _ ec ef).mono ?_
    rintro e u' w'' ⟨rfl, rfl, rfl⟩
    have a9 := Go.Joins.below_alloc1 w2 (.cells #[.int .i64 (C : Int)] 123)
    exact ⟨_, results_tc rfl _ _ _ _ _ rfl rfl (load_errno (cell1 (Lib.heap_setCell_same (i := 0) (heap_below k2' a9) _))), by rw [hr'.out]; rfl, below_set (B2.out.trans (a9.mono B2.out.size)) (by omega)⟩
end Go.Proofs.YtmfbkelhegdmpaaGreatDoor
/- The walk of the reference's Room, chapter 13 (snap). -/
namespace Go.Proofs.YtmfbkelhegdmpaaGreatDoor
open Go.RowKit Disk11 Journal12 Sum2

set_option maxHeartbeats 4000000 in
set_option maxRecDepth 100000 in
theorem RRoom_any13 (d : Dev) (v : Value) (g : Nat) (p : Int) (w : World) (hg64 : g < 18446744073709551616) (h : DiskIs w d v) :
    Calls Tryz.prog 26 #[v, logV g p] w fun e w' => e = .returned (.tuple #[.int .i64 (roomS d (g, p)).1, .int .i64 (roomS d (g, p)).2]) ∧ Below w.heap.size w w' := by
  have HO := Lib.hid (fun W h => Rcheck_any13 d v g p W h)
  have HS := Lib.hid (fun W => RSize_any13 g hg64 W)
  obtain ⟨C, hC⟩ : ∃ C, C = checkS d (g, p) := ⟨_, rfl⟩
  rw [← hC] at HO
  have hC' := Lib.hid hC
  have hR : roomS d (g, p) = if C ≠ 0 then (0, C) else (max (-1) ((roomJ (regS d.1.length) p).1 - ((putN g).length : Int)), 0) := by unfold roomS; rw [← hC]
  obtain ⟨R, hR2⟩ : ∃ R, R = roomS d (g, p) := ⟨_, rfl⟩
  rw [← hR2] at hR ⊢
  clear hC hR2
  obtain ⟨x2, hx2⟩ : ∃ x, x = ((2 * (d.1.length / 4) : Nat) : Int) := ⟨_, rfl⟩
  obtain ⟨x3, hx3⟩ : ∃ x, x = ((d.1.length - 2 * (d.1.length / 4) : Nat) : Int) := ⟨_, rfl⟩
  have HG := Lib.hid (fun (hb : d.1.length ≤ 4096) W => Rregion_any d.1.length hb W)
  have he : logRegV d.1.length = .agg #[.int .i64 ((2 * (d.1.length / 4) : Nat) : Int), .int .i64 ((d.1.length - 2 * (d.1.length / 4) : Nat) : Int)] := rfl
  have hreg : regS d.1.length = (x2, x3) := by rw [hx2, hx3]; rfl
  rw [← hx2, ← hx3] at he
  rw [he] at HG
  rw [hreg] at hR
  have hR' := Lib.hid hR
  have hreg' := Lib.hid hreg
  clear he hx2 hx3 hreg hR
  obtain ⟨ab, cb, ac, cc, rfl, _, _, _, _⟩ := h.form
  obtain ⟨k0, k1, hsz, hbl⟩ := alloc2 w (.cells #[.slice ab d.1.length cb, .slice ac d.2.length cc] 29) (.cells #[.int .u64 (g : Int), .int .i64 p] 32)
  have hB := Lib.hid hbl
  have h0 := Lib.hid h
  clear h hbl hsz
  go_enter Tryz.func26, Tryz.ntmps26
  go_upto_region 1 with (fail)
  generalize hW1 : ((w.alloc (.cells #[.slice ab d.1.length cb, .slice ac d.2.length cc] 29)).alloc (.cells #[.int .u64 (g : Int), .int .i64 p] 32)) = W1 at *
  clear hW1
  have c0 := cell2_0 k0
  have c1 := cell2_1 k0
  have l0 := cell2_0 k1
  have l1 := cell2_1 k1
  go_wp2_with fail
  refine (HO.out _ (h0.out.below hB.out)).mono ?_
  rintro e w2 ⟨rfl, b2⟩
  have B2 := Lib.hid (hB.out.trans (b2.mono hB.out.size))
  have k0 := heap_below k0 b2
  have k1 := heap_below k1 b2
  clear c0 c1 l0 l1 b2
  by_cases hc : C = 0
  · have hok := room_ok (d := d) (g := g) (p := p) (by rw [← hC'.out]; exact hc)
    have h4 := (check_ok (d := d) (g := g) (p := p) (by rw [← hC'.out]; exact hc)).1.2.1
    rw [hreg'.out] at hok
    have hr := hR'.out
    rw [if_neg (by simp [hc])] at hr
    obtain ⟨n, hn⟩ : ∃ n, n = (roomJ (x2, x3) p).1 := ⟨_, rfl⟩
    have HJ := Lib.hid (fun W => RRoom_any x2 x3 p W)
    rw [hok.1, ← hn] at HJ
    rw [← hn] at hok hr
    obtain ⟨s, hs⟩ : ∃ s, s = (putN g).length := ⟨_, rfl⟩
    have hs10 : s ≤ 10 := by rw [hs]; exact putN_le g hg64
    rw [← hs] at hr HS
    have hr' := Lib.hid hr
    have hn0 : 0 ≤ n := hok.2.1
    have hn1 : n ≤ 60000 := hok.2.2
    have HGg := Lib.hid (HG.out h4)
    rw [hc]
    have hk0 : ((0 : Nat) : Int) = 0 := rfl
    rw [hk0]
    rw [hk0] at HJ
    have d0 := cell2_0 k0
    have l1 := cell2_1 k1
    have HK := Lib.hid k1
    clear hr hok hn hs hc hk0 k0 k1 HG
    go_upto_region 4 with (fail)
    have V := Lib.hid (show Below w2.heap.size w2 w2.drew from (Below.refl _ w2).drew)
    go_region_held3 (fun W => W.cell? ⟨w.heap.size, 0, none⟩ = some (.slice ab d.1.length cb) ∧ W.cell? ⟨w.heap.size + 1, 1, none⟩ = some (.int .i64 p))
      (first | exact ⟨cell_below V.out d0, cell_below V.out l1⟩ | go_keep)
      (first
      | (go_at_call 59; refine (HGg.out _).mono ?_; rintro e u ⟨rfl, y⟩
         have V := Lib.hid (V.out.trans (y.mono V.out.size)))
      | (go_at_call 72; refine (HJ.out _).mono ?_; rintro e u ⟨rfl, y⟩
         have V := Lib.hid (V.out.trans (y.mono V.out.size))))
    have K5 := heap_below HK.out V.out
    have B5 := Lib.hid (B2.out.trans (V.out.mono B2.out.size))
    have g0 := cell2_0 K5
    clear d0 l1 V
    go_wp2_with fail
    refine (HS.out _).mono ?_
    rintro e w6 ⟨rfl, b6⟩
    have B6 := Lib.hid (B5.out.trans (b6.mono B5.out.size))
    clear b6 K5
    go_wp2
    all_goals
      refine bodyPost_ret (results_tmp2 rfl _ _ _) rfl ⟨?_, B6.out⟩
      rw [hr'.out]
      first
        | (rw [show max (-1) (n - (s : Int)) = -1 by omega]; rfl)
        | (rw [show max (-1) (n - (s : Int)) = n - (s : Int) by omega]; rfl)
  · have hc1 : ((C : Int) != 0) = true := by simp; omega
    have hr := hR'.out
    rw [if_pos hc] at hr
    have hr' := Lib.hid hr
    clear hr hc k0 k1
    go_wp2
    exact bodyPost_ret (results_tmp2 rfl _ _ _) rfl ⟨by rw [hr'.out]; rfl, B2.out⟩
end Go.Proofs.YtmfbkelhegdmpaaGreatDoor
