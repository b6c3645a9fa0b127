/- Texts of small laws, one behind the other. -/
import Derived.Test.YtmfbkelhegdmpaaGreatDoorSnapPl
import Derived.WalkLawsBesides
import Derived.Deep.RegionHeld3
import Derived.Deep.CutRange
import Derived.Defers
import Derived.Recover
import Derived.Test.YtmfbkelhegdmpaaGreatDoorDiskAW
import Derived.Deep.QuietTactic
import Derived.BigQuiet
import Derived.Laws.Pointers
/- The walks of must and of the parts of a device, chapter 13 (snap). -/
namespace Go.Proofs.YtmfbkelhegdmpaaGreatDoor
open Go.RowKit Disk11 Journal12 Sum2

/-- What a function gives up with. -/
abbrev Fault (k : Nat) : Ending := .panicked [{ v := .iface 123 (.agg #[.int .i64 (k : Int)]), recovered := false }]
theorem must_ok (w : World) : Calls Tryz.prog 48 #[.int .i64 0] w fun e w' => e = .returned (.tuple #[]) ∧ w' = w := by
  go_enter Tryz.func48, Tryz.ntmps48
  go_wp2
  first | go_end0 | skip
  exact ⟨rfl, rfl⟩
theorem must_fail (k : Nat) (hk : k ≠ 0) (w : World) : Calls Tryz.prog 48 #[.int .i64 (k : Int)] w fun e w' => e = Fault k ∧ w' = w := by
  have h1 : ((k : Int) != 0) = true := by simp; exact hk
  go_enter Tryz.func48, Tryz.ntmps48
  go_wp2
  exact ⟨rfl, rfl, rfl⟩
theorem results_cellS {fn : Func} {P : Program} {p : Tmp} {ty : TypeId} (h : fn.results = #[.cell p ty]) (tmps : Array Value) (w : World) (g : Nat) (t : TypeId) (cs : Array Value) (fr : Nat × Nat) (d : TypeDesc)
    (hp : tmps.getD p undef = .pointer (some ⟨g, 0, none⟩)) (hg : w.heap[g]? = some (.cells cs t fr))
    (hu : P.underlying ty = some d) (hd : (match d with | .struct _ | .array _ _ => true | _ => false) = true) (hi : (P.info? ty).map (·.size) = some cs.size) :
    (results fn tmps).run P w = .ok (.agg cs) w := by
  have hp' : tmps[p]?.getD undef = .pointer (some ⟨g, 0, none⟩) := by simpa using hp
  simp [results, h, hp', asAddr, run_loadVar_row w g t ty cs fr d hg hu hd hi]
theorem cell3_0 {w : World} {b t : Nat} {x y z : Value} (h : w.heap[b]? = some (.cells #[x, y, z] t (0, 0))) : w.cell? ⟨b, 0, none⟩ = some x := by simp [World.cell?, h]
theorem cell3_1 {w : World} {b t : Nat} {x y z : Value} (h : w.heap[b]? = some (.cells #[x, y, z] t (0, 0))) : w.cell? ⟨b, 1, none⟩ = some y := by simp [World.cell?, h]
theorem cell3_2 {w : World} {b t : Nat} {x y z : Value} (h : w.heap[b]? = some (.cells #[x, y, z] t (0, 0))) : w.cell? ⟨b, 2, none⟩ = some z := by simp [World.cell?, h]
theorem frozen3 {w : World} {b t : Nat} {x y z : Value} (h : w.heap[b]? = some (.cells #[x, y, z] t (0, 0))) (j : Nat) : w.frozen? ⟨b, j, none⟩ = false := by simp [World.frozen?, h]
theorem set_three {w : World} {b t : Nat} {x y z x' y' z' : Value} (h : w.heap[b]? = some (.cells #[x, y, z] t (0, 0))) : (((w.setCell ⟨b, 0, none⟩ x').setCell ⟨b, 1, none⟩ y').setCell ⟨b, 2, none⟩ z').heap[b]? = some (.cells #[x', y', z'] t (0, 0)) :=
  Lib.heap_setCell_same (i := 2) (Lib.heap_setCell_same (i := 1) (Lib.heap_setCell_same (i := 0) h x') y') z'
/-- The parts of a device of so many blocks. -/
abbrev layV (b : Nat) : Value := .agg #[.int .i64 ((b / 4 : Nat) : Int), .int .i64 ((2 * (b / 4) : Nat) : Int), .int .i64 ((b - 2 * (b / 4) : Nat) : Int)]
set_option maxHeartbeats 1000000 in
set_option maxRecDepth 100000 in
theorem layoutOf_any (b : Nat) (hb : b ≤ 4096) (w : World) : Calls Tryz.prog 35 #[.int .i64 (b : Int)] w fun e w' => e = .returned (layV b) ∧ Below w.heap.size w w' := by
  obtain ⟨q, hq⟩ : ∃ q, q = b / 4 := ⟨_, rfl⟩
  have ht : Int.tdiv (b : Int) 4 = (q : Int) := by rw [Int.tdiv_eq_ediv_of_nonneg (by omega)]; omega
  have hq4 : q ≤ 1024 := by omega
  have e1 : layV b = .agg #[.int .i64 (q : Int), .int .i64 (2 * (q : Int)), .int .i64 ((b : Int) - 2 * (q : Int))] := by
    unfold layV
    rw [← hq, show ((2 * q : Nat) : Int) = 2 * (q : Int) by omega, show ((b - 2 * q : Nat) : Int) = (b : Int) - 2 * (q : Int) by omega]
  have k1 := World.alloc_heap_new w (.cells #[.int .i64 (q : Int), .int .i64 (2 * (q : Int)), .int .i64 ((b : Int) - 2 * (q : Int))] 67)
  have hbl := Go.Joins.below_alloc1 w (.cells #[.int .i64 (q : Int), .int .i64 (2 * (q : Int)), .int .i64 ((b : Int) - 2 * (q : Int))] 67)
  rw [e1]
  clear hq e1
  go_enter Tryz.func35, Tryz.ntmps35
  go_wp2
  exact bodyPost_ret (results_cellS rfl _ _ w.heap.size _ _ _ _ rfl k1 Tryz.underlying67 rfl (by kernel_rfl)) rfl ⟨rfl, hbl⟩
set_option maxHeartbeats 1000000 in
set_option maxRecDepth 100000 in
theorem capacity_any (b : Nat) (hb : b ≤ 4096) (h8 : 4 ≤ b) (w : World) : Calls Tryz.prog 36 #[layV b] w fun e w' => e = .returned (.int .i64 ((slotN b - 17 : Nat) : Int)) ∧ Below w.heap.size w w' := by
  obtain ⟨q, hq⟩ : ∃ q, q = b / 4 := ⟨_, rfl⟩
  have hq4 : q ≤ 1024 := by omega
  have hq1 : 1 ≤ q := by omega
  have hr : ((slotN b - 17 : Nat) : Int) = 64 * (q : Int) - 17 := by unfold slotN; omega
  obtain ⟨B2, hB2⟩ : ∃ x, x = ((2 * (b / 4) : Nat) : Int) := ⟨_, rfl⟩
  obtain ⟨B3, hB3⟩ : ∃ x, x = ((b - 2 * (b / 4) : Nat) : Int) := ⟨_, rfl⟩
  rw [hr]
  unfold layV
  rw [← hq] at hB2 hB3 ⊢
  rw [← hB2, ← hB3]
  have hb := Go.Joins.below_alloc1 w (.cells #[.int .i64 (q : Int), .int .i64 B2, .int .i64 B3] 67)
  clear hq hr hB2 hB3
  go_enter Tryz.func36, Tryz.ntmps36
  go_wp2
  go_ret
  exact ⟨rfl, hb⟩
set_option maxHeartbeats 1000000 in
set_option maxRecDepth 100000 in
theorem start_any (b g : Nat) (hb : b ≤ 4096) (hg : g ≤ 2199023255552) (w : World) : Calls Tryz.prog 40 #[layV b, .int .u64 (g : Int)] w fun e w' => e = .returned (.int .i64 (placeS b g : Nat)) ∧ Below w.heap.size w w' := by
  obtain ⟨q, hq⟩ : ∃ q, q = b / 4 := ⟨_, rfl⟩
  have hq4 : q ≤ 1024 := by omega
  obtain ⟨r, hr⟩ : ∃ r, r = g % 2 := ⟨_, rfl⟩
  have hr1 : r = 0 ∨ r = 1 := by omega
  have ht : Int.tmod (g : Int) 2 = (r : Int) := by rw [Int.tmod_eq_emod_of_nonneg (by omega)]; omega
  have hp : ((placeS b g : Nat) : Int) = 64 * (q : Int) * (r : Int) := by unfold placeS slotN; rw [← hq, ← hr]; push_cast; rfl
  obtain ⟨B2, hB2⟩ : ∃ x, x = ((2 * (b / 4) : Nat) : Int) := ⟨_, rfl⟩
  obtain ⟨B3, hB3⟩ : ∃ x, x = ((b - 2 * (b / 4) : Nat) : Int) := ⟨_, rfl⟩
  rw [hp]
  unfold layV
  rw [← hq] at hB2 hB3 ⊢
  rw [← hB2, ← hB3]
  have hb := Go.Joins.below_alloc1 w (.cells #[.int .i64 (q : Int), .int .i64 B2, .int .i64 B3] 67)
  clear hq hr hB2 hB3 hp
  rcases hr1 with rfl | rfl
  · go_enter Tryz.func40, Tryz.ntmps40
    go_wp2
    go_ret
    exact ⟨by simp, hb⟩
  · go_enter Tryz.func40, Tryz.ntmps40
    go_wp2
    go_ret
    exact ⟨by simp, hb⟩
set_option maxHeartbeats 1000000 in
set_option maxRecDepth 100000 in
theorem length_anyS (b : Nat) (hb : b ≤ 4096) (w : World) : Calls Tryz.prog 109 #[layV b] w fun e w' => e = .returned (.int .i64 (64 * ((b - 2 * (b / 4) : Nat) : Int))) ∧ Below w.heap.size w w' := by
  obtain ⟨B1, hB1⟩ : ∃ x, x = ((b / 4 : Nat) : Int) := ⟨_, rfl⟩
  obtain ⟨B2, hB2⟩ : ∃ x, x = ((2 * (b / 4) : Nat) : Int) := ⟨_, rfl⟩
  obtain ⟨B3, hB3⟩ : ∃ x : Nat, x = b - 2 * (b / 4) := ⟨_, rfl⟩
  have h3 : B3 ≤ 4096 := by omega
  unfold layV
  rw [← hB1, ← hB2, ← hB3]
  have hb := Go.Joins.below_alloc1 w (.cells #[.int .i64 B1, .int .i64 B2, .int .i64 (B3 : Int)] 67)
  clear hB1 hB2 hB3
  go_enter Tryz.func109, Tryz.ntmps109
  go_wp2
  go_ret
  exact ⟨rfl, hb⟩
set_option maxHeartbeats 1000000 in
set_option maxRecDepth 100000 in
theorem Capacity_any (b : Int) (hb : I64 b) (w : World) : Calls Tryz.prog 11 #[.int .i64 b] w fun e w' => e = .returned (.tuple #[.int .i64 (capS b).1, .int .i64 (capS b).2]) ∧ Below w.heap.size w w' := by
  by_cases h1 : b < 8
  · have e : capS b = (0, 2) := by unfold capS; rw [if_pos (.inl h1)]
    have h1' : decide (b < 8) = true := by simpa using h1
    rw [e]
    go_enter Tryz.func11, Tryz.ntmps11
    go_wp2
    exact bodyPost_ret (results_tmp2 rfl _ _ _) rfl ⟨rfl, Below.refl _ _⟩
  have h1' : decide (b < 8) = false := by simp; omega
  by_cases h2 : 4096 < b
  · have e : capS b = (0, 2) := by unfold capS; rw [if_pos (.inr h2)]
    have h2' : decide (4096 < b) = true := by simpa using h2
    rw [e]
    go_enter Tryz.func11, Tryz.ntmps11
    go_wp2
    exact bodyPost_ret (results_tmp2 rfl _ _ _) rfl ⟨rfl, Below.refl _ _⟩
  have h2' : decide (4096 < b) = false := by simp; omega
  obtain ⟨n, rfl⟩ : ∃ n : Nat, b = (n : Int) := ⟨b.toNat, by omega⟩
  have e : capS (n : Int) = (((slotN n - 17 : Nat) : Int), 0) := by
    unfold capS
    rw [if_neg (by omega)]
    unfold slotN
    congr 1; omega
  rw [e]
  have HL := Lib.hid (fun W => layoutOf_any n (by omega) W)
  have HC := Lib.hid (fun W => capacity_any n (by omega) (by omega) W)
  obtain ⟨C, hC⟩ : ∃ C : Int, C = ((slotN n - 17 : Nat) : Int) := ⟨_, rfl⟩
  rw [← hC] at HC ⊢
  clear hC e
  go_enter Tryz.func11, Tryz.ntmps11
  go_wp2_with fail
  refine (HL.out _).mono ?_
  rintro e w1 ⟨rfl, b1⟩
  go_wp2_with fail
  refine (HC.out _).mono ?_
  rintro e w2 ⟨rfl, b2⟩
  go_wp2
  exact bodyPost_ret (results_tmp2 rfl _ _ _) rfl ⟨rfl, b1.trans (b2.mono b1.size)⟩
end Go.Proofs.YtmfbkelhegdmpaaGreatDoor
/- The walks of open, opened and write, chapter 13 (snap): what they answer, or how they give up. -/
namespace Go.Proofs.YtmfbkelhegdmpaaGreatDoor
open Go.RowKit Disk11 Journal12 Sum2

def openN (d : Dev) : Nat := if (chk d).1 ≠ 0 then (chk d).1 else if d.1.length < 8 then 2 else 0
/-- An answer, or a giving up. -/
def Ends (k : Nat) (B : Nat) (w : World) (R : Ending → World → Prop) (e : Ending) (w' : World) : Prop := (k = 0 ∧ R e w') ∨ (k ≠ 0 ∧ e = Fault k ∧ Below B w w')
set_option maxHeartbeats 4000000 in
set_option maxRecDepth 100000 in
theorem open_any (d : Dev) (v : Value) (w : World) (h : DiskIs w d v) :
    Calls Tryz.prog 47 #[v] w (Ends (openN d) w.heap.size w fun e w' => e = .returned (layV d.1.length) ∧ Disk11.Good d ∧ Below w.heap.size w w') := by
  have HC := Lib.hid (fun W h => Check_any d v W h)
  have HM := Lib.hid (fun W => must_ok W)
  have HF := Lib.hid (fun k hk W => must_fail k hk W)
  have HL := Lib.hid (fun W (hb : d.1.length ≤ 4096) => layoutOf_any d.1.length hb W)
  have he : layV d.1.length = .agg #[.int .i64 ((d.1.length / 4 : Nat) : Int), .int .i64 ((2 * (d.1.length / 4) : Nat) : Int), .int .i64 ((d.1.length - 2 * (d.1.length / 4) : Nat) : Int)] := rfl
  obtain ⟨x1, hx1⟩ : ∃ x, x = ((d.1.length / 4 : Nat) : Int) := ⟨_, rfl⟩
  obtain ⟨x2, hx2⟩ : ∃ x, x = ((2 * (d.1.length / 4) : Nat) : Int) := ⟨_, rfl⟩
  obtain ⟨x3, hx3⟩ : ∃ x, x = ((d.1.length - 2 * (d.1.length / 4) : Nat) : Int) := ⟨_, rfl⟩
  rw [← hx1, ← hx2, ← hx3] at he
  rw [he] at HL ⊢
  clear he hx1 hx2 hx3
  obtain ⟨ab, cb, ac, cc, rfl, _, _, _, _⟩ := h.form
  obtain ⟨k1, k2, hsz, hbl⟩ := alloc2 w (.cells #[.slice ab d.1.length cb, .slice ac d.2.length cc] 29) (.cells #[.int .i64 0, .int .i64 0, .int .i64 0] 67)
  have h0 := h.below hbl
  have hB := Lib.hid hbl
  obtain ⟨c, hc⟩ : ∃ c, c = chk d := ⟨_, rfl⟩
  rw [← hc] at HC
  clear h hbl hsz
  go_enter Tryz.func47, Tryz.ntmps47
  go_upto_region 1 with (fail)
  generalize hW1 : ((w.alloc (.cells #[.slice ab d.1.length cb, .slice ac d.2.length cc] 29)).alloc (.cells #[.int .i64 0, .int .i64 0, .int .i64 0] 67)) = W1 at *
  clear hW1
  have c0 := cell2_0 k1
  have c1 := cell2_1 k1
  go_wp2_with fail
  refine (HC.out _ h0).mono ?_
  rintro e w2 ⟨rfl, b2⟩
  have B2 := Lib.hid (hB.out.trans (b2.mono hB.out.size))
  have k1' := heap_below k1 b2
  have k2' := heap_below k2 b2
  have d0 := cell2_0 k1'
  have d1 := cell2_1 k1'
  clear c0 c1 k1 k2 h0
  by_cases hk : c.1 = 0
  · have hk0 : (c.1 : Int) = 0 := by omega
    rw [hk0]
    go_wp2_with fail
    refine (HM.out _).mono ?_
    rintro e w3 ⟨rfl, rfl⟩
    have hg : Disk11.Good d := (chk_good d).1 (chk_ok (by rw [← hc]; exact hk))
    have hk' := Lib.hid hk
    have hc' := Lib.hid hc
    clear hk hk0 hc
    by_cases h8 : d.1.length < 8
    · have h8' : decide ((d.1.length : Int) < 8) = true := by simp; omega
      have ho := Lib.hid (show openN d = 2 by unfold openN; rw [← hc'.out, if_neg (by rw [hk'.out]; simp), if_pos h8])
      go_wp2_with fail
      refine (HF.out 2 (by decide) _).mono ?_
      rintro e w4 ⟨rfl, rfl⟩
      go_wp2
      exact ⟨rfl, .inr ⟨by rw [ho.out]; decide, by rw [ho.out]; rfl, B2.out⟩⟩
    · have h8' : decide ((d.1.length : Int) < 8) = false := by simp; omega
      have ho := Lib.hid (show openN d = 0 by unfold openN; rw [← hc'.out, if_neg (by rw [hk'.out]; simp), if_neg h8])
      have hb4 : d.1.length ≤ 4096 := hg.2.1
      have hg' := Lib.hid hg
      clear hg
      go_wp2_with fail
      refine (HL.out _ hb4).mono ?_
      rintro e w4 ⟨rfl, b4⟩
      have B4 := Lib.hid (B2.out.trans (b4.mono B2.out.size))
      have k3 := heap_below k2' b4
      have f0 := frozen3 k3 0
      have f1 := frozen3 k3 1
      have f2 := frozen3 k3 2
      have q0 := cell3_0 k3
      have q1 := cell3_1 k3
      have q2 := cell3_2 k3
      have k5 := set_three (x' := .int .i64 x1) (y' := .int .i64 x2) (z' := .int .i64 x3) k3
      go_wp2
      exact bodyPost_ret (results_cellS rfl _ _ (w.heap.size + 1) _ _ _ _ rfl k5 Tryz.underlying67 rfl (by kernel_rfl)) rfl (.inl ⟨ho.out, rfl, hg'.out, below_set (below_set (below_set B4.out (by omega)) (by omega)) (by omega)⟩)
  · have ho := Lib.hid (show openN d = c.1 by unfold openN; rw [← hc, if_pos hk])
    have hk' := Lib.hid hk
    clear hc
    go_wp2_with fail
    refine (HF.out c.1 hk _).mono ?_
    rintro e w3 ⟨rfl, rfl⟩
    go_wp2
    exact ⟨rfl, .inr ⟨by rw [ho.out]; exact hk, by rw [ho.out], B2.out⟩⟩
theorem openN_check {d : Dev} {l : LogS} (h : openN d ≠ 0) : checkS d l = openN d := by
  unfold openN at h ⊢
  unfold checkS
  by_cases h1 : (chk d).1 ≠ 0
  · rw [if_pos h1, if_pos h1]
  · rw [if_neg h1] at h ⊢
    by_cases h2 : d.1.length < 8
    · rw [if_neg h1, if_pos (.inl h2), if_pos h2]
    · rw [if_neg h2] at h; exact absurd rfl h
theorem openN_ok {d : Dev} (h : openN d = 0) : (chk d).1 = 0 ∧ 8 ≤ d.1.length := by
  unfold openN at h
  by_cases h1 : (chk d).1 ≠ 0
  · rw [if_pos h1] at h; exact absurd h h1
  · rw [if_neg h1] at h
    by_cases h2 : d.1.length < 8
    · rw [if_pos h2] at h; cases h
    · exact ⟨Decidable.not_not.1 h1, by omega⟩
theorem check_two {d : Dev} {l : LogS} (h : openN d = 0) (hc : l.1 < 1 ∨ 1099511627776 < l.1 ∨ l.2 < 0 ∨ 64 * (regS d.1.length).2 < l.2) : checkS d l = 2 := by
  unfold checkS
  rw [if_neg (by rw [(openN_ok h).1]; simp), if_pos (.inr hc)]
theorem check_zero {d : Dev} {l : LogS} (h : openN d = 0) (h1 : 1 ≤ l.1) (h2 : l.1 ≤ 1099511627776) (h3 : 0 ≤ l.2) (h4 : l.2 ≤ 64 * (regS d.1.length).2) : checkS d l = 0 := by
  unfold checkS
  rw [if_neg (by rw [(openN_ok h).1]; simp), if_neg]
  have := (openN_ok h).2
  omega
abbrev logV (g : Nat) (e : Int) : Value := .agg #[.int .u64 (g : Int), .int .i64 e]
set_option maxHeartbeats 4000000 in
set_option maxRecDepth 100000 in
theorem opened_any (d : Dev) (v : Value) (g : Nat) (p : Int) (w : World) (h : DiskIs w d v) :
    Calls Tryz.prog 65 #[v, logV g p] w (Ends (checkS d (g, p)) w.heap.size w fun e w' => e = .returned (layV d.1.length) ∧ Disk11.Good d ∧ Below w.heap.size w w') := by
  have HO := Lib.hid (fun W h => open_any d v W h)
  have HF := Lib.hid (fun W => must_fail 2 (by decide) W)
  have HN := Lib.hid (fun W (hb : d.1.length ≤ 4096) => length_anyS d.1.length hb W)
  have he : layV d.1.length = .agg #[.int .i64 ((d.1.length / 4 : Nat) : Int), .int .i64 ((2 * (d.1.length / 4) : Nat) : Int), .int .i64 ((d.1.length - 2 * (d.1.length / 4) : Nat) : Int)] := rfl
  obtain ⟨x1, hx1⟩ : ∃ x, x = ((d.1.length / 4 : Nat) : Int) := ⟨_, rfl⟩
  obtain ⟨x2, hx2⟩ : ∃ x, x = ((2 * (d.1.length / 4) : Nat) : Int) := ⟨_, rfl⟩
  obtain ⟨x3, hx3⟩ : ∃ x, x = ((d.1.length - 2 * (d.1.length / 4) : Nat) : Int) := ⟨_, rfl⟩
  rw [← hx1, ← hx2, ← hx3] at he
  rw [he] at HO HN ⊢
  rw [← hx3] at HN
  have hX := Lib.hid hx3
  clear he hx1 hx2 hx3
  obtain ⟨ab, cb, ac, cc, rfl, _, _, _, _⟩ := h.form
  have e0 := Go.Joins.below_alloc1 w (.cells #[.slice ab d.1.length cb, .slice ac d.2.length cc] 29)
  have kA := World.alloc_heap_new w (.cells #[.slice ab d.1.length cb, .slice ac d.2.length cc] 29)
  have h1 := h.below e0
  obtain ⟨k1, k2, hsz, hbl⟩ := alloc2 (w.alloc (.cells #[.slice ab d.1.length cb, .slice ac d.2.length cc] 29)) (.cells #[.int .u64 (g : Int), .int .i64 p] 32) (.cells #[.int .i64 0, .int .i64 0, .int .i64 0] 67)
  have h0 := h1.below hbl
  have kD := heap_below kA hbl
  rw [show (w.alloc (.cells #[.slice ab d.1.length cb, .slice ac d.2.length cc] 29)).heap.size = w.heap.size + 1 by simp] at k1 k2
  have hB := Lib.hid (e0.trans (hbl.mono e0.size))
  clear h hbl hsz h1 kA e0
  go_enter Tryz.func65, Tryz.ntmps65
  go_upto_region 1 with (fail)
  generalize hW1 : (((w.alloc (.cells #[.slice ab d.1.length cb, .slice ac d.2.length cc] 29)).alloc (.cells #[.int .u64 (g : Int), .int .i64 p] 32)).alloc (.cells #[.int .i64 0, .int .i64 0, .int .i64 0] 67)) = W1 at *
  clear hW1
  have c0 := cell2_0 kD
  have c1 := cell2_1 kD
  go_wp2_with fail
  refine (HO.out _ h0).mono ?_
  rintro e w2 (⟨ho, rfl, hgd, b2⟩ | ⟨ho, rfl, b2⟩)
  · have B2 := Lib.hid (hB.out.trans (b2.mono hB.out.size))
    have k1' := heap_below k1 b2
    have k2' := heap_below k2 b2
    have l2 := (Array.getElem?_eq_some_iff.1 k2').1
    have hk := Lib.hid ho
    have hgd' := Lib.hid hgd
    have hb4 : d.1.length ≤ 4096 := hgd.2.1
    have a3 := Go.Joins.below_alloc1 w2 (.cells #[.int .i64 x1, .int .i64 x2, .int .i64 x3] 67)
    have k3 := World.alloc_heap_new w2 (.cells #[.int .i64 x1, .int .i64 x2, .int .i64 x3] 67)
    have q1 := heap_below k1' a3
    have q2 := heap_below k2' a3
    have B3 := Lib.hid (B2.out.trans (a3.mono B2.out.size))
    clear ho hgd c0 c1 kD k1 k2 k1' k2' h0 a3 b2
    go_upto_region 2 with (fail)
    generalize hW3 : (w2.alloc (.cells #[.int .i64 x1, .int .i64 x2, .int .i64 x3] 67)) = W3 at *
    clear hW3
    have g0 := cell2_0 q1
    have g1 := cell2_1 q1
    have y0 := cell3_0 k3
    have y1 := cell3_1 k3
    have y2 := cell3_2 k3
    by_cases d1 : g < 1
    · have d1' : decide ((g : Int) < 1) = true := by simp; omega
      go_quiet (fail)
      go_wp2_with fail
      refine (HF.out _).mono ?_
      rintro e w4 ⟨rfl, rfl⟩
      have hc := check_two (l := (g, p)) hk.out (.inl d1)
      go_wp2
      exact ⟨rfl, .inr ⟨by rw [hc]; decide, by rw [hc]; rfl, below_drewN B3.out nq⟩⟩
    have d1' : decide ((g : Int) < 1) = false := by simp; omega
    by_cases d2 : 1099511627776 < g
    · have d2' : decide (1099511627776 < (g : Int)) = true := by simp; omega
      go_quiet (fail)
      go_wp2_with fail
      refine (HF.out _).mono ?_
      rintro e w4 ⟨rfl, rfl⟩
      have hc := check_two (l := (g, p)) hk.out (.inr (.inl d2))
      go_wp2
      exact ⟨rfl, .inr ⟨by rw [hc]; decide, by rw [hc]; rfl, below_drewN B3.out nq⟩⟩
    have d2' : decide (1099511627776 < (g : Int)) = false := by simp; omega
    by_cases d3 : p < 0
    · have d3' : decide (p < 0) = true := by simp; omega
      go_quiet (fail)
      go_wp2_with fail
      refine (HF.out _).mono ?_
      rintro e w4 ⟨rfl, rfl⟩
      have hc := check_two (l := (g, p)) hk.out (.inr (.inr (.inl d3)))
      go_wp2
      exact ⟨rfl, .inr ⟨by rw [hc]; decide, by rw [hc]; rfl, below_drewN B3.out nq⟩⟩
    have d3' : decide (p < 0) = false := by simp; omega
    have hx : (regS d.1.length).2 = x3 := hX.out.symm
    have hx4 : 0 ≤ x3 ∧ x3 ≤ 4096 := by have := hX.out; omega
    have e1 := Lib.hid (show 1 ≤ g by omega)
    have e2 := Lib.hid (show g ≤ 1099511627776 by omega)
    have e3 := Lib.hid (show 0 ≤ p by omega)
    have hx' := Lib.hid hx
    have Q2 := Lib.hid q2
    clear d1 d2 d3 hx q1 q2 k3
    by_cases d4 : 64 * x3 < p
    · have d4' : decide (64 * x3 < p) = true := by simp; omega
      have hc := Lib.hid (check_two (l := (g, p)) hk.out (.inr (.inr (.inr (by rw [hx'.out]; exact d4)))))
      clear d4
      go_region_held3 (fun V => V.cell? ⟨w.heap.size + 1, 0, none⟩ = some (.int .u64 (g : Int)) ∧ V.cell? ⟨w.heap.size + 1, 1, none⟩ = some (.int .i64 p) ∧ V.cell? ⟨w2.heap.size, 0, none⟩ = some (.int .i64 x1) ∧ V.cell? ⟨w2.heap.size, 1, none⟩ = some (.int .i64 x2) ∧ V.cell? ⟨w2.heap.size, 2, none⟩ = some (.int .i64 x3))
        (first | exact ⟨g0, g1, y0, y1, y2⟩ | exact ⟨o0, o1, o2, o3, o4⟩ | go_keep)
        (first
        | (go_at_call 109; refine (HN.out _ hb4).mono ?_; rintro e u ⟨rfl, yb⟩
           have o0 := cell_below yb (show W3.drew.cell? _ = _ from g0); have o1 := cell_below yb (show W3.drew.cell? _ = _ from g1); have o2 := cell_below yb (show W3.drew.cell? _ = _ from y0); have o3 := cell_below yb (show W3.drew.cell? _ = _ from y1); have o4 := cell_below yb (show W3.drew.cell? _ = _ from y2)
           have Q4 := Lib.hid (heap_below (show W3.drew.heap[w.heap.size + 1 + 1]? = _ from Q2.out) yb)
           have U := Lib.hid (B3.out.drew.trans ((show Below W3.drew.heap.size W3.drew u from yb).mono B3.out.size))))
      go_wp2_with fail
      refine (HF.out _).mono ?_
      rintro e w4 ⟨rfl, rfl⟩
      go_wp2
      exact ⟨rfl, .inr ⟨by rw [hc.out]; decide, by rw [hc.out]; rfl, U.out⟩⟩
    · have d4' : decide (64 * x3 < p) = false := by simp; omega
      have hc := Lib.hid (check_zero (l := (g, p)) hk.out e1.out e2.out e3.out (by rw [hx'.out]; show p ≤ 64 * x3; omega))
      clear d4
      go_region_held3 (fun V => V.cell? ⟨w.heap.size + 1, 0, none⟩ = some (.int .u64 (g : Int)) ∧ V.cell? ⟨w.heap.size + 1, 1, none⟩ = some (.int .i64 p) ∧ V.cell? ⟨w2.heap.size, 0, none⟩ = some (.int .i64 x1) ∧ V.cell? ⟨w2.heap.size, 1, none⟩ = some (.int .i64 x2) ∧ V.cell? ⟨w2.heap.size, 2, none⟩ = some (.int .i64 x3))
        (first | exact ⟨g0, g1, y0, y1, y2⟩ | exact ⟨o0, o1, o2, o3, o4⟩ | go_keep)
        (first
        | (go_at_call 109; refine (HN.out _ hb4).mono ?_; rintro e u ⟨rfl, yb⟩
           have o0 := cell_below yb (show W3.drew.cell? _ = _ from g0); have o1 := cell_below yb (show W3.drew.cell? _ = _ from g1); have o2 := cell_below yb (show W3.drew.cell? _ = _ from y0); have o3 := cell_below yb (show W3.drew.cell? _ = _ from y1); have o4 := cell_below yb (show W3.drew.cell? _ = _ from y2)
           have Q4 := Lib.hid (heap_below (show W3.drew.heap[w.heap.size + 1 + 1]? = _ from Q2.out) yb)
           have U := Lib.hid (B3.out.drew.trans ((show Below W3.drew.heap.size W3.drew u from yb).mono B3.out.size))))
      have k4 := Q4.out
      have f0 := frozen3 k4 0
      have f1 := frozen3 k4 1
      have f2 := frozen3 k4 2
      have i0 := cell3_0 k4
      have i1 := cell3_1 k4
      have i2 := cell3_2 k4
      have k5 := set_three (x' := .int .i64 x1) (y' := .int .i64 x2) (z' := .int .i64 x3) k4
      go_wp2
      exact bodyPost_ret (results_cellS rfl _ _ (w.heap.size + 1 + 1) _ _ _ _ rfl k5 Tryz.underlying67 rfl (by kernel_rfl)) rfl (.inl ⟨hc.out, rfl, hgd'.out, below_set (below_set (below_set U.out (by omega)) (by omega)) (by omega)⟩)
  · have B2 := Lib.hid (hB.out.trans (b2.mono hB.out.size))
    have hk := Lib.hid ho
    clear ho
    go_wp2
    exact ⟨rfl, .inr ⟨by rw [openN_check hk.out]; exact hk.out, by rw [openN_check hk.out], B2.out⟩⟩
end Go.Proofs.YtmfbkelhegdmpaaGreatDoor
/- The deferred call of given, chapter 13 (snap): its two contracts. -/
namespace Go.Proofs.YtmfbkelhegdmpaaGreatDoor
open Go.RowKit Disk11 Journal12 Sum2

theorem cell_alloc_old {w : World} {p : Addr} {x : Value} (hc : w.cell? p = some x) (o : Obj) : (w.alloc o).cell? p = some x := cell_below (Go.Joins.below_alloc1 w o) hc
theorem frozen_alloc_old {w : World} {p : Addr} {x : Value} (hc : w.cell? p = some x) (hz : w.frozen? p = false) (o : Obj) : (w.alloc o).frozen? p = false := by
  have hl := cell_lt hc
  unfold World.frozen? at hz ⊢
  rw [Below.heap_alloc w o p.block hl]; exact hz
set_option maxHeartbeats 2000000 in
set_option maxRecDepth 100000 in
theorem given_idle (p : Addr) (w : World) :
    CallsD Tryz.prog 46 #[.pointer (some p)] .returning w fun e u' w' => e = .returned (.tuple #[]) ∧ u' = .returning ∧ w' = w := by
  refine callsD_of_wpS Tryz.func46 rfl fun c₀ cs hu => ?_
  apply wpS_seq
  apply wpS_region
  simp [wpOpsS, go_sem, recoverD, hu, Tryz.ntmps46, Exit.thenS]
  simp only [Array.replicate_succ, Array.replicate_zero, List.push_toArray, List.append_toArray, List.nil_append, List.cons_append, List.setIfInBounds_toArray, List.set_cons_succ, List.set_cons_zero]
  refine wpS_of_wp ?_
  obtain ⟨Q, hQ⟩ : ∃ Q : Exit → Act → World → Prop, Q = (fun e a' w' => bodyPostS Tryz.prog Tryz.f46 c₀ cs (fun e u' w' => e = .returned (.tuple #[]) ∧ u' = .returning ∧ w' = w) e a' (c₀ :: cs) w') := ⟨_, rfl⟩
  rw [← hQ]
  have hQ' := Lib.hid hQ
  clear hQ
  go_wp2
  rw [hQ'.out]
  exact ⟨rfl, .returning, by cases c₀; simp_all, _, results_none rfl _ _ _, rfl, rfl, rfl⟩
set_option maxHeartbeats 2000000 in
set_option maxRecDepth 100000 in
theorem given_fault (p : Addr) (k : Nat) (x : Value) (older : List PanicEntry) (w : World) (hc : w.cell? p = some x) (hz : w.frozen? p = false) :
    CallsD Tryz.prog 46 #[.pointer (some p)] (.panicking ({ v := .iface 123 (.agg #[.int .i64 (k : Int)]), recovered := false } :: older)) w fun e u' w' =>
      e = .returned (.tuple #[]) ∧ u' = .panicking ({ v := .iface 123 (.agg #[.int .i64 (k : Int)]), recovered := true } :: older) ∧ w' = (w.alloc (.cells #[.int .i64 (k : Int)] 123)).setCell p (.int .i64 (k : Int)) := by
  refine callsD_of_wpS Tryz.func46 rfl fun c₀ cs hu => ?_
  apply wpS_seq
  apply wpS_region
  simp [wpOpsS, go_sem, recoverD, hu, Tryz.ntmps46, Exit.thenS]
  simp only [Array.replicate_succ, Array.replicate_zero, List.push_toArray, List.append_toArray, List.nil_append, List.cons_append, List.setIfInBounds_toArray, List.set_cons_succ, List.set_cons_zero]
  refine wpS_of_wp ?_
  obtain ⟨Q, hQ⟩ : ∃ Q : Exit → Act → World → Prop, Q = (fun e a' w' => bodyPostS Tryz.prog Tryz.f46 c₀ cs (fun e u' w' => e = .returned (.tuple #[]) ∧ u' = .panicking ({ v := .iface 123 (.agg #[.int .i64 (k : Int)]), recovered := true } :: older) ∧ w' = (w.alloc (.cells #[.int .i64 (k : Int)] 123)).setCell p (.int .i64 (k : Int))) e a' ({ c₀ with mode := .panicking ({ v := .iface 123 (.agg #[.int .i64 (k : Int)]), recovered := true } :: older) } :: cs) w') := ⟨_, rfl⟩
  rw [← hQ]
  have hQ' := Lib.hid hQ
  clear hQ
  have hta : ∀ W : World, (Instr.typeAssert (.iface 123 (.agg #[.int .i64 (k : Int)])) 20 123 true).run Tryz.prog W = .ok (.tuple #[.agg #[.int .i64 (k : Int)], .bool true]) W := fun W => by kernel_rfl
  have hca := cell_alloc_old hc (.cells #[.int .i64 (k : Int)] 123)
  have hza := frozen_alloc_old hc hz (.cells #[.int .i64 (k : Int)] 123)
  go_wp2
  rw [hQ'.out]
  exact ⟨rfl, _, rfl, _, results_none rfl _ _ _, rfl, rfl, rfl⟩
theorem results_tc {fn : Func} {P : Program} {p q : Tmp} {ty : TypeId} (h : fn.results = #[.tmp p, .cell q ty]) (tmps : Array Value) (w : World) (v u : Value) (a : Addr)
    (hp : tmps.getD p undef = v) (hq : tmps.getD q undef = .pointer (some a)) (h2 : (loadVar ty a).run P w = .ok u w) :
    (results fn tmps).run P w = .ok (.tuple #[v, u]) w := by
  have hp' : tmps[p]?.getD undef = v := by simpa using hp
  have hq' : tmps[q]?.getD undef = .pointer (some a) := by simpa using hq
  simp [results, h, hp', hq', asAddr, Result.andThen, h2]
theorem results_c3 {fn : Func} {P : Program} {p q r : Tmp} {t1 t2 t3 : TypeId} (h : fn.results = #[.cell p t1, .cell q t2, .cell r t3]) (tmps : Array Value) (w : World) (v1 v2 v3 : Value) (a b c : Addr)
    (hp : tmps.getD p undef = .pointer (some a)) (hq : tmps.getD q undef = .pointer (some b)) (hr : tmps.getD r undef = .pointer (some c)) (h1 : (loadVar t1 a).run P w = .ok v1 w) (h2 : (loadVar t2 b).run P w = .ok v2 w) (h3 : (loadVar t3 c).run P w = .ok v3 w) :
    (results fn tmps).run P w = .ok (.tuple #[v1, v2, v3]) w := by
  have hp' : tmps[p]?.getD undef = .pointer (some a) := by simpa using hp
  have hq' : tmps[q]?.getD undef = .pointer (some b) := by simpa using hq
  have hr' : tmps[r]?.getD undef = .pointer (some c) := by simpa using hr
  simp [results, h, hp', hq', hr', asAddr, Result.andThen, h1, h2, h3]
theorem load_errno {w : World} {a : Addr} {v : Value} (h : w.cell? a = some v) : (loadVar 23 a).run Tryz.prog w = .ok v w := by
  simp [loadVar, isAgg, Sem.run_bind, run_underlying Tryz.underlying23, h, go_sem, Result.andThen]
theorem load_disk {w : World} {g : Nat} {x y : Value} (h : w.heap[g]? = some (.cells #[x, y] 29 (0, 0))) : (loadVar 29 ⟨g, 0, none⟩).run Tryz.prog w = .ok (.agg #[x, y]) w :=
  run_loadVar_row w g _ _ _ _ _ h Tryz.underlying29 rfl (by kernel_rfl)
theorem load_log {w : World} {g : Nat} {x y : Value} (h : w.heap[g]? = some (.cells #[x, y] 32 (0, 0))) : (loadVar 32 ⟨g, 0, none⟩).run Tryz.prog w = .ok (.agg #[x, y]) w :=
  run_loadVar_row w g _ _ _ _ _ h Tryz.underlying32 rfl (by kernel_rfl)
end Go.Proofs.YtmfbkelhegdmpaaGreatDoor
/- Stores into blocks that hold no string leave a disk as it is. -/
namespace Go.Proofs.YtmfbkelhegdmpaaGreatDoor
open Go.RowKit Disk11

/-- No string lies in the block. -/
def NoStr (w : World) (b : Nat) : Prop := ∃ cs t m, w.heap[b]? = some (.cells cs t m) ∧ ∀ s, Value.string s ∉ cs.toList
theorem no_str {w : World} {b t : Nat} {cs : Array Value} {m : Nat × Nat} (h : w.heap[b]? = some (.cells cs t m)) (hc : ∀ s, Value.string s ∉ cs.toList) : NoStr w b := ⟨_, _, _, h, hc⟩
theorem NoStr.cell {w : World} {b : Nat} (h : NoStr w b) {a : Addr} {s : ByteArray} (ha : w.cell? a = some (.string s)) : a.block ≠ b := by
  obtain ⟨cs, t, m, hh, hc⟩ := h
  rintro rfl
  unfold World.cell? at ha
  rw [hh] at ha
  dsimp only at ha
  split at ha
  · cases ha
  · exact hc s (Array.mem_toList_iff.2 (Array.mem_of_getElem? ha))
theorem nostr_set {w : World} {b g j : Nat} {u : Value} (h : NoStr w b) (hu : ∀ s, u ≠ .string s) : NoStr (w.setCell ⟨g, j, none⟩ u) b := by
  obtain ⟨cs, t, m, hh, hc⟩ := h
  by_cases he : g = b
  · subst he
    refine ⟨_, _, _, Lib.heap_setCell_same (i := j) hh u, fun s hs => ?_⟩
    rw [Array.toList_setIfInBounds] at hs
    rcases List.mem_or_eq_of_mem_set hs with h1 | h1
    · exact hc s h1
    · exact hu s h1.symm
  · exact ⟨cs, t, m, ((grown_cell w g j u).block b (Array.getElem?_eq_some_iff.1 hh).1 (fun e => he (by cases e; rfl))).trans hh, hc⟩
theorem add_block (a : Addr) (k : Nat) : (a.add k).block = a.block := by unfold Addr.add; split <;> rfl
theorem Row.aside {w : World} {size n b j : Nat} {v u : Value} {xs : List Value} (h : Row w size v n xs) (hb : NoStr w b) (hx : xs = [] ∨ ∃ (k : Nat) (s : ByteArray), xs[k]? = some (.string s)) : Row (w.setCell ⟨b, j, none⟩ u) size v n xs := by
  obtain ⟨h1, ad, c, h2, h3, h4⟩ := h
  refine ⟨h1, ad, c, h2, h3, fun i x hi => ?_⟩
  obtain ⟨a, ha, hc⟩ := h4 i x hi
  refine ⟨a, ha, ?_⟩
  rcases hx with rfl | ⟨k, s, hk⟩
  · simp at hi
  obtain ⟨a', ha', hc'⟩ := h4 k _ hk
  rw [ha] at ha'
  cases ha'
  have hne : a.block ≠ b := fun e => hb.cell hc' (by rw [add_block]; exact e)
  have hg := (grown_cell w b j u).block (a.add i).block (cell_lt hc) (fun e => hne (by rw [add_block] at e; cases e; rfl))
  unfold World.cell? at hc ⊢; rw [hg]; exact hc
theorem strVals_some (l : List (List UInt8)) : strVals l = [] ∨ ∃ (k : Nat) (s : ByteArray), (strVals l)[k]? = some (.string s) := by
  cases l with
  | nil => exact .inl rfl
  | cons a l => exact .inr ⟨0, ⟨a.toArray⟩, rfl⟩
theorem wrVals_some (l : List Wr) : wrVals l = [] ∨ ∃ (k : Nat) (s : ByteArray), (wrVals l)[k]? = some (.string s) := by
  cases l with
  | nil => exact .inl rfl
  | cons a l => exact .inr ⟨1, ⟨a.2.toArray⟩, rfl⟩
/-- A store into a block that holds no string leaves a disk as it is. -/
theorem disk_aside {w : World} {d : Dev} {v u : Value} {b j : Nat} (h : DiskIs w d v) (hb : NoStr w b) : DiskIs (w.setCell ⟨b, j, none⟩ u) d v := by
  obtain ⟨vb, vc, h1, h2, h3⟩ := h
  exact ⟨vb, vc, h1, h2.aside hb (strVals_some _), h3.aside hb (wrVals_some _)⟩
end Go.Proofs.YtmfbkelhegdmpaaGreatDoor
