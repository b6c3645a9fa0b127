/- The walks of placed, Room, region, blank, chapter 12 (journal), the program's and the reference's. -/
import Derived.Test.YthhghggaoljcbaaDoorJournalB
import Derived.Deep.RegionHeld3
namespace Go.Proofs.YthhghggaoljcbaaDoor
open Go.RowKit Disk11 Journal12

theorem ret2 {a b c d : Int} (h : a = b) (g : c = d) : Ending.returned (.tuple #[.int .i64 a, .int .i64 c]) = .returned (.tuple #[.int .i64 b, .int .i64 d]) := by rw [h, g]
theorem length_nat (f b : Nat) (w : World) (h : b ≤ 4096) (P : Program) (n : Nat) (H : ∀ (f b : Int) (w : World), -4611686018427387904 < 64 * b → 64 * b < 4611686018427387904 → Calls P n #[.agg #[.int .i64 f, .int .i64 b]] w fun e w' => e = .returned (.int .i64 (64 * b)) ∧ Below w.heap.size w w') :
    Calls P n #[.agg #[.int .i64 (f : Int), .int .i64 (b : Int)]] w fun e w' => e = .returned (.int .i64 (64 * (b : Int))) ∧ Below w.heap.size w w' := H f b w (by omega) (by omega)
theorem placed_cases (d : Dev) (f b p : Int) : (chkJ d (f, b) ≠ 0 ∧ placedJ d (f, b) p = chkJ d (f, b)) ∨ (chkJ d (f, b) = 0 ∧ p < 0 ∧ placedJ d (f, b) p = 2) ∨ (chkJ d (f, b) = 0 ∧ ¬ p < 0 ∧ 64 * b < p ∧ placedJ d (f, b) p = 2) ∨ (chkJ d (f, b) = 0 ∧ ¬ p < 0 ∧ ¬ 64 * b < p ∧ placedJ d (f, b) p = 0) := by
  unfold placedJ
  by_cases h : chkJ d (f, b) = 0
  · rw [h]
    simp only [ne_eq, not_true_eq_false, if_false]
    by_cases h1 : p < 0
    · exact .inr (.inl ⟨trivial, h1, by rw [if_pos (.inl h1)]⟩)
    · by_cases h2 : 64 * b < p
      · exact .inr (.inr (.inl ⟨trivial, h1, h2, by rw [if_pos (.inr h2)]⟩))
      · exact .inr (.inr (.inr ⟨trivial, h1, h2, by rw [if_neg (fun g => g.elim h1 h2)]⟩))
  · exact .inl ⟨h, by rw [if_pos h]⟩

set_option maxHeartbeats 4000000 in
set_option maxRecDepth 100000 in
theorem placed_any (d : Dev) (v : Value) (f b p : Int) (w : World) (h : DiskIs w d v) :
    Calls Tryd.prog 46 #[v, .agg #[.int .i64 f, .int .i64 b], .int .i64 p] w fun e w' => e = .returned (.int .i64 (placedJ d (f, b) p)) ∧ Below w.heap.size w w' := by
  have HC := Lib.hid (fun W h => JCheck_any d v f b W h)
  have hD := Lib.hid h
  have hc := placed_cases d f b p
  have hfb : chkJ d (f, b) = 0 → -4611686018427387904 < 64 * b ∧ 64 * b < 4611686018427387904 := fun h => by
    obtain ⟨hg, f', b', e, _, h2⟩ := chkJ_ok h
    have := hg.2.1
    simp only [Prod.mk.injEq] at e
    omega
  obtain ⟨r, hr⟩ : ∃ r, r = placedJ d (f, b) p := ⟨_, rfl⟩
  obtain ⟨c, hcc⟩ : ∃ c, c = chkJ d (f, b) := ⟨_, rfl⟩
  rw [← hr, ← hcc] at hc
  rw [← hcc] at hfb HC
  rw [← hr]
  clear hr hcc
  obtain ⟨ab, cb, ac, cc, rfl, _, _, hbc, _⟩ := h.form
  clear h hbc
  obtain ⟨k1, k2, hsz, hbl⟩ := alloc2 w (.cells #[.slice ab d.1.length cb, .slice ac d.2.length cc] 25) (.cells #[.int .i64 f, .int .i64 b] 27)
  go_enter Tryd.func46, Tryd.ntmps46
  go_wp2_with fail
  refine (HC.out _ (hD.out.below hbl)).mono ?_
  rintro e w1 ⟨rfl, b1⟩
  have k2' := heap_below k2 b1
  have hb1 := Lib.hid (hbl.trans (b1.mono hbl.size))
  have r0 := cell2_0 k2'
  have r1 := cell2_1 k2'
  clear k1 k2 hsz hbl b1 k2'
  rcases hc with ⟨h1, rfl⟩ | ⟨rfl, h1, rfl⟩ | ⟨rfl, h1, h2, rfl⟩ | ⟨rfl, h1, h2, rfl⟩
  · have h0' : ((r : Int) == 0) = false := by simp; exact h1
    clear hfb h1
    go_wp2
    go_ret
    exact ⟨rfl, hb1.out⟩
  · have q1 : decide (p < 0) = true := by simp; exact h1
    clear hfb h1
    go_wp2
    go_ret
    exact ⟨rfl, hb1.out⟩
  · have q1 : decide (p < 0) = false := by simp; omega
    have q2 : decide (64 * b < p) = true := by simp; exact h2
    obtain ⟨g1, g2⟩ := hfb rfl
    have HL := Lib.hid (fun W => length_any f b W g1 g2)
    clear hfb h1 h2 g1 g2
    go_wp2_with fail
    refine (HL.out _).mono ?_
    rintro e w2 ⟨rfl, b2⟩
    have hb2 := Lib.hid (hb1.out.trans (b2.mono hb1.out.size))
    clear b2
    go_wp2
    go_ret
    exact ⟨rfl, hb2.out⟩
  · have q1 : decide (p < 0) = false := by simp; omega
    have q2 : decide (64 * b < p) = false := by simp; omega
    obtain ⟨g1, g2⟩ := hfb rfl
    have HL := Lib.hid (fun W => length_any f b W g1 g2)
    clear hfb h1 h2 g1 g2
    go_wp2_with fail
    refine (HL.out _).mono ?_
    rintro e w2 ⟨rfl, b2⟩
    have hb2 := Lib.hid (hb1.out.trans (b2.mono hb1.out.size))
    clear b2
    go_wp2
    go_ret
    exact ⟨rfl, hb2.out⟩

set_option maxHeartbeats 4000000 in
set_option maxRecDepth 100000 in
theorem Rplaced_any (d : Dev) (v : Value) (f b p : Int) (w : World) (h : DiskIs w d v) :
    Calls Tryd.prog 51 #[v, .agg #[.int .i64 f, .int .i64 b], .int .i64 p] w fun e w' => e = .returned (.int .i64 (placedJ d (f, b) p)) ∧ Below w.heap.size w w' := by
  have HC := Lib.hid (fun W h => RJCheck_any d v f b W h)
  have hD := Lib.hid h
  have hc := placed_cases d f b p
  have hfb : chkJ d (f, b) = 0 → -4611686018427387904 < 64 * b ∧ 64 * b < 4611686018427387904 := fun h => by
    obtain ⟨hg, f', b', e, _, h2⟩ := chkJ_ok h
    have := hg.2.1
    simp only [Prod.mk.injEq] at e
    omega
  obtain ⟨r, hr⟩ : ∃ r, r = placedJ d (f, b) p := ⟨_, rfl⟩
  obtain ⟨c, hcc⟩ : ∃ c, c = chkJ d (f, b) := ⟨_, rfl⟩
  rw [← hr, ← hcc] at hc
  rw [← hcc] at hfb HC
  rw [← hr]
  clear hr hcc
  obtain ⟨ab, cb, ac, cc, rfl, _, _, hbc, _⟩ := h.form
  clear h hbc
  obtain ⟨k1, k2, hsz, hbl⟩ := alloc2 w (.cells #[.slice ab d.1.length cb, .slice ac d.2.length cc] 25) (.cells #[.int .i64 f, .int .i64 b] 27)
  go_enter Tryd.func51, Tryd.ntmps51
  go_wp2_with fail
  refine (HC.out _ (hD.out.below hbl)).mono ?_
  rintro e w1 ⟨rfl, b1⟩
  have k2' := heap_below k2 b1
  have hb1 := Lib.hid (hbl.trans (b1.mono hbl.size))
  have r0 := cell2_0 k2'
  have r1 := cell2_1 k2'
  clear k1 k2 hsz hbl b1 k2'
  rcases hc with ⟨h1, rfl⟩ | ⟨rfl, h1, rfl⟩ | ⟨rfl, h1, h2, rfl⟩ | ⟨rfl, h1, h2, rfl⟩
  · have h0' : ((r : Int) == 0) = false := by simp; exact h1
    clear hfb h1
    go_wp2
    go_ret
    exact ⟨rfl, hb1.out⟩
  · have q1 : decide (p < 0) = true := by simp; exact h1
    clear hfb h1
    go_wp2
    go_ret
    exact ⟨rfl, hb1.out⟩
  · have q1 : decide (p < 0) = false := by simp; omega
    have q2 : decide (64 * b < p) = true := by simp; exact h2
    obtain ⟨g1, g2⟩ := hfb rfl
    have HL := Lib.hid (fun W => Rlength_any f b W g1 g2)
    clear hfb h1 h2 g1 g2
    go_wp2_with fail
    refine (HL.out _).mono ?_
    rintro e w2 ⟨rfl, b2⟩
    have hb2 := Lib.hid (hb1.out.trans (b2.mono hb1.out.size))
    clear b2
    go_wp2
    go_ret
    exact ⟨rfl, hb2.out⟩
  · have q1 : decide (p < 0) = false := by simp; omega
    have q2 : decide (64 * b < p) = false := by simp; omega
    obtain ⟨g1, g2⟩ := hfb rfl
    have HL := Lib.hid (fun W => Rlength_any f b W g1 g2)
    clear hfb h1 h2 g1 g2
    go_wp2_with fail
    refine (HL.out _).mono ?_
    rintro e w2 ⟨rfl, b2⟩
    have hb2 := Lib.hid (hb1.out.trans (b2.mono hb1.out.size))
    clear b2
    go_wp2
    go_ret
    exact ⟨rfl, hb2.out⟩

set_option maxHeartbeats 4000000 in
set_option maxRecDepth 100000 in
theorem Room_any (f b p : Int) (w : World) :
    Calls Tryd.prog 30 #[.agg #[.int .i64 f, .int .i64 b], .int .i64 p] w fun e w' => e = .returned (.tuple #[.int .i64 (roomJ (f, b) p).1, .int .i64 (roomJ (f, b) p).2]) ∧ Below w.heap.size w w' := by
  have k1 := World.alloc_heap_new w (.cells #[.int .i64 f, .int .i64 b] 27)
  have hbl := Lib.hid (Go.Joins.below_alloc1 w (.cells #[.int .i64 f, .int .i64 b] 27))
  have r0 := cell2_0 k1
  have r1 := cell2_1 k1
  clear k1
  have q1 : decide (f < 0) = true ∨ decide (f < 0) = false := by cases decide (f < 0) <;> simp
  have q2 : decide (b < 1) = true ∨ decide (b < 1) = false := by cases decide (b < 1) <;> simp
  have q3 : decide (4096 < b) = true ∨ decide (4096 < b) = false := by cases decide (4096 < b) <;> simp
  have q4 : decide (p < 0) = true ∨ decide (p < 0) = false := by cases decide (p < 0) <;> simp
  have q5 : decide (64 * b < p) = true ∨ decide (64 * b < p) = false := by cases decide (64 * b < p) <;> simp
  rcases q1 with q1 | q1
  · have hr : roomJ (f, b) p = (0, 2) := by unfold roomJ; rw [if_pos]; exact .inl (by simpa using q1)
    rw [hr]
    clear q2 q3 q4 q5 hr
    go_enter Tryd.func30, Tryd.ntmps30
    go_wp2
    exact bodyPost_ret (results_tmp2 rfl _ _ _) rfl ⟨rfl, hbl.out⟩
  rcases q2 with q2 | q2
  · have hr : roomJ (f, b) p = (0, 2) := by unfold roomJ; rw [if_pos]; exact .inr (.inl (by simpa using q2))
    rw [hr]
    clear q3 q4 q5 hr
    go_enter Tryd.func30, Tryd.ntmps30
    go_wp2
    exact bodyPost_ret (results_tmp2 rfl _ _ _) rfl ⟨rfl, hbl.out⟩
  rcases q3 with q3 | q3
  · have hr : roomJ (f, b) p = (0, 2) := by unfold roomJ; rw [if_pos]; exact .inr (.inr (.inl (by simpa using q3)))
    rw [hr]
    clear q4 q5 hr
    go_enter Tryd.func30, Tryd.ntmps30
    go_wp2
    exact bodyPost_ret (results_tmp2 rfl _ _ _) rfl ⟨rfl, hbl.out⟩
  rcases q4 with q4 | q4
  · have hr : roomJ (f, b) p = (0, 2) := by unfold roomJ; rw [if_pos]; exact .inr (.inr (.inr (.inl (by simpa using q4))))
    rw [hr]
    clear q5 hr
    go_enter Tryd.func30, Tryd.ntmps30
    go_wp2
    exact bodyPost_ret (results_tmp2 rfl _ _ _) rfl ⟨rfl, hbl.out⟩
  have g2 : 1 ≤ b := by have := q2; simp at this; omega
  have g3 : b ≤ 4096 := by simpa using q3
  have g4 : 0 ≤ p := by simpa using q4
  have HL := Lib.hid (fun W => length_any f b W (by omega) (by omega))
  rcases q5 with q5 | q5
  · have hr : roomJ (f, b) p = (0, 2) := by unfold roomJ; rw [if_pos]; exact .inr (.inr (.inr (.inr (by simpa using q5))))
    rw [hr]
    clear hr
    go_enter Tryd.func30, Tryd.ntmps30
    go_wp2_with fail
    refine (HL.out _).mono ?_
    rintro e w2 ⟨rfl, b2⟩
    have hb2 := Lib.hid (hbl.out.trans (b2.mono hbl.out.size))
    clear b2
    go_wp2
    exact bodyPost_ret (results_tmp2 rfl _ _ _) rfl ⟨rfl, hb2.out⟩
  · have g5 : p ≤ 64 * b := by simpa using q5
    have hr : roomJ (f, b) p = (max 0 (min 60000 (64 * b - p - 10)), 0) := by
      unfold roomJ; rw [if_neg]
      rintro (g | g | g | g | g)
      · simp [g] at q1
      · simp [g] at q2
      · simp [g] at q3
      · simp [g] at q4
      · simp [g] at q5
    rw [hr]
    clear hr
    go_enter Tryd.func30, Tryd.ntmps30
    go_wp2_with fail
    refine (HL.out _).mono ?_
    rintro e w2 ⟨rfl, b2⟩
    have hb2 := Lib.hid (hbl.out.trans (b2.mono hbl.out.size))
    have m0 := cell_below b2 r0
    have m1 := cell_below b2 r1
    clear b2
    go_wp2_with fail
    refine (HL.out _).mono ?_
    rintro e w3 ⟨rfl, b3⟩
    have hb3 := Lib.hid (hb2.out.trans (b3.mono hb2.out.size))
    clear b3
    go_wp2
    all_goals (
      refine bodyPost_ret (results_tmp2 rfl _ _ _) rfl ⟨?_, hb3.out⟩
      simp
      omega)

set_option maxHeartbeats 4000000 in
set_option maxRecDepth 100000 in
theorem RRoom_any (f b p : Int) (w : World) :
    Calls Tryd.prog 31 #[.agg #[.int .i64 f, .int .i64 b], .int .i64 p] w fun e w' => e = .returned (.tuple #[.int .i64 (roomJ (f, b) p).1, .int .i64 (roomJ (f, b) p).2]) ∧ Below w.heap.size w w' := by
  have k1 := World.alloc_heap_new w (.cells #[.int .i64 f, .int .i64 b] 27)
  have hbl := Lib.hid (Go.Joins.below_alloc1 w (.cells #[.int .i64 f, .int .i64 b] 27))
  have r0 := cell2_0 k1
  have r1 := cell2_1 k1
  clear k1
  have q1 : decide (f < 0) = true ∨ decide (f < 0) = false := by cases decide (f < 0) <;> simp
  have q2 : decide (b < 1) = true ∨ decide (b < 1) = false := by cases decide (b < 1) <;> simp
  have q3 : decide (4096 < b) = true ∨ decide (4096 < b) = false := by cases decide (4096 < b) <;> simp
  have q4 : decide (p < 0) = true ∨ decide (p < 0) = false := by cases decide (p < 0) <;> simp
  have q5 : decide (64 * b < p) = true ∨ decide (64 * b < p) = false := by cases decide (64 * b < p) <;> simp
  rcases q1 with q1 | q1
  · have hr : roomJ (f, b) p = (0, 2) := by unfold roomJ; rw [if_pos]; exact .inl (by simpa using q1)
    rw [hr]
    clear q2 q3 q4 q5 hr
    go_enter Tryd.func31, Tryd.ntmps31
    go_wp2
    exact bodyPost_ret (results_tmp2 rfl _ _ _) rfl ⟨rfl, hbl.out⟩
  rcases q2 with q2 | q2
  · have hr : roomJ (f, b) p = (0, 2) := by unfold roomJ; rw [if_pos]; exact .inr (.inl (by simpa using q2))
    rw [hr]
    clear q3 q4 q5 hr
    go_enter Tryd.func31, Tryd.ntmps31
    go_wp2
    exact bodyPost_ret (results_tmp2 rfl _ _ _) rfl ⟨rfl, hbl.out⟩
  rcases q3 with q3 | q3
  · have hr : roomJ (f, b) p = (0, 2) := by unfold roomJ; rw [if_pos]; exact .inr (.inr (.inl (by simpa using q3)))
    rw [hr]
    clear q4 q5 hr
    go_enter Tryd.func31, Tryd.ntmps31
    go_wp2
    exact bodyPost_ret (results_tmp2 rfl _ _ _) rfl ⟨rfl, hbl.out⟩
  rcases q4 with q4 | q4
  · have hr : roomJ (f, b) p = (0, 2) := by unfold roomJ; rw [if_pos]; exact .inr (.inr (.inr (.inl (by simpa using q4))))
    rw [hr]
    clear q5 hr
    go_enter Tryd.func31, Tryd.ntmps31
    go_wp2
    exact bodyPost_ret (results_tmp2 rfl _ _ _) rfl ⟨rfl, hbl.out⟩
  have g2 : 1 ≤ b := by have := q2; simp at this; omega
  have g3 : b ≤ 4096 := by simpa using q3
  have g4 : 0 ≤ p := by simpa using q4
  have HL := Lib.hid (fun W => Rlength_any f b W (by omega) (by omega))
  rcases q5 with q5 | q5
  · have hr : roomJ (f, b) p = (0, 2) := by unfold roomJ; rw [if_pos]; exact .inr (.inr (.inr (.inr (by simpa using q5))))
    rw [hr]
    clear hr
    go_enter Tryd.func31, Tryd.ntmps31
    go_wp2_with fail
    refine (HL.out _).mono ?_
    rintro e w2 ⟨rfl, b2⟩
    have hb2 := Lib.hid (hbl.out.trans (b2.mono hbl.out.size))
    clear b2
    go_wp2
    exact bodyPost_ret (results_tmp2 rfl _ _ _) rfl ⟨rfl, hb2.out⟩
  · have g5 : p ≤ 64 * b := by simpa using q5
    have hr : roomJ (f, b) p = (max 0 (min 60000 (64 * b - p - 10)), 0) := by
      unfold roomJ; rw [if_neg]
      rintro (g | g | g | g | g)
      · simp [g] at q1
      · simp [g] at q2
      · simp [g] at q3
      · simp [g] at q4
      · simp [g] at q5
    rw [hr]
    clear hr
    go_enter Tryd.func31, Tryd.ntmps31
    go_wp2_with fail
    refine (HL.out _).mono ?_
    rintro e w2 ⟨rfl, b2⟩
    have hb2 := Lib.hid (hbl.out.trans (b2.mono hbl.out.size))
    have m0 := cell_below b2 r0
    have m1 := cell_below b2 r1
    clear b2
    go_wp2_with fail
    refine (HL.out _).mono ?_
    rintro e w3 ⟨rfl, b3⟩
    have hb3 := Lib.hid (hb2.out.trans (b3.mono hb2.out.size))
    clear b3
    go_wp2
    all_goals (
      refine bodyPost_ret (results_tmp2 rfl _ _ _) rfl ⟨?_, hb3.out⟩
      simp
      omega)
end Go.Proofs.YthhghggaoljcbaaDoor
