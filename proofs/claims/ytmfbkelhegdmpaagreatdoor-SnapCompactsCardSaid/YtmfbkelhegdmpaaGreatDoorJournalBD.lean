/- Texts of small laws, one behind the other. -/
import Derived.Test.YtmfbkelhegdmpaaGreatDoorJPlain
import Derived.Test.YtmfbkelhegdmpaaGreatDoorDiskGH
import Derived.Test.YtmfbkelhegdmpaaGreatDoorDiskMU
import Derived.BigQuiet
import Derived.Deep.QuietTactic
import Derived.Deep.RegionHeld3
import Derived.Lib.Hide
/- The walks of the small functions on a device and a region, chapter 12 (journal), the program's and the reference's. -/
namespace Go.Proofs.YtmfbkelhegdmpaaGreatDoor
open Go.RowKit Disk11 Journal12

abbrev regV (r : Reg) : Value := .agg #[.int .i64 r.1, .int .i64 r.2]
theorem good_len {d : Dev} (h : (chk d).1 = 0) : d.1.length ≤ 4096 := ((chk_good d).1 (chk_ok h)).2.1
theorem ret_i64 {a b : Int} (h : a = b) : Ending.returned (.int .i64 a) = .returned (.int .i64 b) := by rw [h]

theorem length_any (f b : Int) (w : World) (h1 : -4611686018427387904 < 64 * b) (h2 : 64 * b < 4611686018427387904) :
    Calls Tryz.prog 99 #[.agg #[.int .i64 f, .int .i64 b]] w fun e w' => e = .returned (.int .i64 (64 * b)) ∧ Below w.heap.size w w' := by
  have k1 := World.alloc_heap_new w (.cells #[.int .i64 f, .int .i64 b] 65)
  have hbl := Go.Joins.below_alloc1 w (.cells #[.int .i64 f, .int .i64 b] 65)
  have c0 := cell2_1 k1
  have e1 : IntKind.i64.wrap (64 * b) = 64 * b := by rw [IntKind.wrap_i64]; omega
  have hB := Lib.hid hbl
  clear hbl k1
  go_enter Tryz.func99, Tryz.ntmps99
  go_wp2
  go_ret
  exact ⟨rfl, hB.out⟩

theorem Rlength_any (f b : Int) (w : World) (h1 : -4611686018427387904 < 64 * b) (h2 : 64 * b < 4611686018427387904) :
    Calls Tryz.prog 108 #[.agg #[.int .i64 f, .int .i64 b]] w fun e w' => e = .returned (.int .i64 (64 * b)) ∧ Below w.heap.size w w' := by
  have k1 := World.alloc_heap_new w (.cells #[.int .i64 f, .int .i64 b] 65)
  have hbl := Go.Joins.below_alloc1 w (.cells #[.int .i64 f, .int .i64 b] 65)
  have c0 := cell2_1 k1
  have e1 : IntKind.i64.wrap (64 * b) = 64 * b := by rw [IntKind.wrap_i64]; omega
  have hB := Lib.hid hbl
  clear hbl k1
  go_enter Tryz.func108, Tryz.ntmps108
  go_wp2
  go_ret
  exact ⟨rfl, hB.out⟩

theorem Size_any (x : List UInt8) (w : World) (hx : x.length ≤ 4611686018427387904) :
    Calls Tryz.prog 54 #[.string ⟨x.toArray⟩] w fun e w' => e = .returned (.tuple #[.int .i64 (sizeF x).1, .int .i64 (sizeF x).2]) ∧ w' = w := by
  unfold sizeF
  by_cases h : x = []
  · subst h
    rw [if_pos rfl]
    go_enter Tryz.func54, Tryz.ntmps54
    go_wp2
    exact bodyPost_ret (results_tmp2 rfl _ _ _) rfl ⟨rfl, rfl⟩
  · have hne : x.isEmpty = false := by cases x <;> simp_all
    have hs : (⟨x.toArray⟩ : ByteArray).size = x.length := rfl
    rw [if_neg h]
    by_cases h2 : 60000 < x.length
    · have h2' : decide ((60000 : Int) < x.length) = true := by simp; omega
      rw [if_pos h2]
      go_enter Tryz.func54, Tryz.ntmps54
      go_wp2
      exact bodyPost_ret (results_tmp2 rfl _ _ _) rfl ⟨rfl, rfl⟩
    · have h2' : decide ((60000 : Int) < x.length) = false := by simp; omega
      rw [if_neg h2]
      go_enter Tryz.func54, Tryz.ntmps54
      go_wp2
      exact bodyPost_ret (results_tmp2 rfl _ _ _) rfl ⟨rfl, rfl⟩

theorem RSize_any (x : List UInt8) (w : World) (hx : x.length ≤ 4611686018427387904) :
    Calls Tryz.prog 111 #[.string ⟨x.toArray⟩] w fun e w' => e = .returned (.tuple #[.int .i64 (sizeF x).1, .int .i64 (sizeF x).2]) ∧ w' = w := by
  unfold sizeF
  by_cases h : x = []
  · subst h
    rw [if_pos rfl]
    go_enter Tryz.func111, Tryz.ntmps111
    go_wp2
    exact bodyPost_ret (results_tmp2 rfl _ _ _) rfl ⟨rfl, rfl⟩
  · have hne : x.isEmpty = false := by cases x <;> simp_all
    have hs : (⟨x.toArray⟩ : ByteArray).size = x.length := rfl
    rw [if_neg h]
    by_cases h2 : 60000 < x.length
    · have h2' : decide ((60000 : Int) < x.length) = true := by simp; omega
      rw [if_pos h2]
      go_enter Tryz.func111, Tryz.ntmps111
      go_wp2
      exact bodyPost_ret (results_tmp2 rfl _ _ _) rfl ⟨rfl, rfl⟩
    · have h2' : decide ((60000 : Int) < x.length) = false := by simp; omega
      rw [if_neg h2]
      go_enter Tryz.func111, Tryz.ntmps111
      go_wp2
      exact bodyPost_ret (results_tmp2 rfl _ _ _) rfl ⟨rfl, rfl⟩

set_option maxHeartbeats 4000000 in
set_option maxRecDepth 100000 in
theorem JCheck_any (d : Dev) (v : Value) (f b : Int) (w : World) (h : DiskIs w d v) :
    Calls Tryz.prog 92 #[v, .agg #[.int .i64 f, .int .i64 b]] w fun e w' => e = .returned (.int .i64 (chkJ d (f, b))) ∧ Below w.heap.size w w' := by
  have HC := Lib.hid (fun W h => Check_any d v W h)
  have hD := Lib.hid h
  have hgd : (chk d).1 = 0 → d.1.length ≤ 4096 := good_len
  obtain ⟨r, hr⟩ : ∃ r, r = chkJ d (f, b) := ⟨_, rfl⟩
  rw [← hr]
  unfold chkJ at hr
  obtain ⟨c, hc⟩ : ∃ c, c = chk d := ⟨_, rfl⟩
  rw [← hc] at hr hgd HC
  clear hc
  obtain ⟨c1, c2⟩ := c
  dsimp only at hr hgd HC
  obtain ⟨ab, cb, ac, cc, rfl, _, _, hbc, hcc⟩ := h.form
  clear h hbc hcc
  obtain ⟨k1, k2, hsz, hbl⟩ := alloc2 w (.cells #[.slice ab d.1.length cb, .slice ac d.2.length cc] 29) (.cells #[.int .i64 f, .int .i64 b] 65)
  by_cases h0 : c1 = 0
  · subst h0
    have hl := hgd rfl
    clear hgd
    rw [if_neg (by simp)] at hr
    have q1 : decide (f < 0) = true ∨ decide (f < 0) = false := by cases decide (f < 0) <;> simp
    have q2 : decide (b < 1) = true ∨ decide (b < 1) = false := by cases decide (b < 1) <;> simp
    have q3 : decide ((d.1.length : Int) < f) = true ∨ decide ((d.1.length : Int) < f) = false := by cases decide ((d.1.length : Int) < f) <;> simp
    have q4 : decide ((d.1.length : Int) - f < b) = true ∨ decide ((d.1.length : Int) - f < b) = false := by cases decide ((d.1.length : Int) - f < b) <;> simp
    go_enter Tryz.func92, Tryz.ntmps92
    go_wp2_with fail
    refine (HC.out _ (hD.out.below hbl)).mono ?_
    rintro e w1 ⟨rfl, b1⟩
    have k1' := heap_below k1 b1
    have k2' := heap_below k2 b1
    have hb1 := Lib.hid (hbl.trans (b1.mono hbl.size))
    have c0 := cell2_0 k1'
    have r0 := cell2_0 k2'
    have r1 := cell2_1 k2'
    clear k1 k2 k1' k2' hsz hbl b1
    rcases q1 with q1 | q1
    · have hr2 : r = 2 := by rw [hr, if_pos]; exact .inl (by simpa using q1)
      subst hr2
      clear hr q2 q3 q4
      go_wp2
      go_ret
      exact ⟨rfl, hb1.out⟩
    rcases q2 with q2 | q2
    · have hr2 : r = 2 := by rw [hr, if_pos]; exact .inr (.inl (by simpa using q2))
      subst hr2
      clear hr q3 q4
      go_wp2
      go_ret
      exact ⟨rfl, hb1.out⟩
    rcases q3 with q3 | q3
    · have hr2 : r = 2 := by rw [hr, if_pos]; exact .inr (.inr (.inl (by simpa using q3)))
      subst hr2
      clear hr q4
      go_wp2
      go_ret
      exact ⟨rfl, hb1.out⟩
    have f0 : 0 ≤ f := by simpa using q1
    have f1 : f ≤ d.1.length := by simpa using q3
    rcases q4 with q4 | q4
    · have hr2 : r = 2 := by rw [hr, if_pos]; exact .inr (.inr (.inr (by simpa using q4)))
      subst hr2
      clear hr
      go_wp2
      go_ret
      exact ⟨rfl, hb1.out⟩
    · have hr2 : r = 0 := by
        rw [hr, if_neg]
        rintro (g | g | g | g)
        · simp [g] at q1
        · simp [g] at q2
        · simp [g] at q3
        · simp [g] at q4
      subst hr2
      clear hr
      go_wp2
      go_ret
      exact ⟨rfl, hb1.out⟩
  · rw [if_pos h0] at hr
    have h0' : ((c1 : Int) == 0) = false := by simp; exact h0
    subst hr
    clear hgd
    go_enter Tryz.func92, Tryz.ntmps92
    go_wp2_with fail
    refine (HC.out _ (hD.out.below hbl)).mono ?_
    rintro e w1 ⟨rfl, b1⟩
    have hb1 := Lib.hid (hbl.trans (b1.mono hbl.size))
    clear k1 k2 hsz hbl b1
    go_wp2
    go_ret
    exact ⟨rfl, hb1.out⟩

set_option maxHeartbeats 4000000 in
set_option maxRecDepth 100000 in
theorem RJCheck_any (d : Dev) (v : Value) (f b : Int) (w : World) (h : DiskIs w d v) :
    Calls Tryz.prog 103 #[v, .agg #[.int .i64 f, .int .i64 b]] w fun e w' => e = .returned (.int .i64 (chkJ d (f, b))) ∧ Below w.heap.size w w' := by
  have HC := Lib.hid (fun W h => RCheck_any d v W h)
  have hD := Lib.hid h
  have hgd : (chk d).1 = 0 → d.1.length ≤ 4096 := good_len
  obtain ⟨r, hr⟩ : ∃ r, r = chkJ d (f, b) := ⟨_, rfl⟩
  rw [← hr]
  unfold chkJ at hr
  obtain ⟨c, hc⟩ : ∃ c, c = chk d := ⟨_, rfl⟩
  rw [← hc] at hr hgd HC
  clear hc
  obtain ⟨c1, c2⟩ := c
  dsimp only at hr hgd HC
  obtain ⟨ab, cb, ac, cc, rfl, _, _, hbc, hcc⟩ := h.form
  clear h hbc hcc
  obtain ⟨k1, k2, hsz, hbl⟩ := alloc2 w (.cells #[.slice ab d.1.length cb, .slice ac d.2.length cc] 29) (.cells #[.int .i64 f, .int .i64 b] 65)
  by_cases h0 : c1 = 0
  · subst h0
    have hl := hgd rfl
    clear hgd
    rw [if_neg (by simp)] at hr
    have q1 : decide (f < 0) = true ∨ decide (f < 0) = false := by cases decide (f < 0) <;> simp
    have q2 : decide (b < 1) = true ∨ decide (b < 1) = false := by cases decide (b < 1) <;> simp
    have q3 : decide ((d.1.length : Int) < f) = true ∨ decide ((d.1.length : Int) < f) = false := by cases decide ((d.1.length : Int) < f) <;> simp
    have q4 : decide ((d.1.length : Int) - f < b) = true ∨ decide ((d.1.length : Int) - f < b) = false := by cases decide ((d.1.length : Int) - f < b) <;> simp
    go_enter Tryz.func103, Tryz.ntmps103
    go_wp2_with fail
    refine (HC.out _ (hD.out.below hbl)).mono ?_
    rintro e w1 ⟨rfl, b1⟩
    have k1' := heap_below k1 b1
    have k2' := heap_below k2 b1
    have hb1 := Lib.hid (hbl.trans (b1.mono hbl.size))
    have c0 := cell2_0 k1'
    have r0 := cell2_0 k2'
    have r1 := cell2_1 k2'
    clear k1 k2 k1' k2' hsz hbl b1
    rcases q1 with q1 | q1
    · have hr2 : r = 2 := by rw [hr, if_pos]; exact .inl (by simpa using q1)
      subst hr2
      clear hr q2 q3 q4
      go_wp2
      go_ret
      exact ⟨rfl, hb1.out⟩
    rcases q2 with q2 | q2
    · have hr2 : r = 2 := by rw [hr, if_pos]; exact .inr (.inl (by simpa using q2))
      subst hr2
      clear hr q3 q4
      go_wp2
      go_ret
      exact ⟨rfl, hb1.out⟩
    rcases q3 with q3 | q3
    · have hr2 : r = 2 := by rw [hr, if_pos]; exact .inr (.inr (.inl (by simpa using q3)))
      subst hr2
      clear hr q4
      go_wp2
      go_ret
      exact ⟨rfl, hb1.out⟩
    have f0 : 0 ≤ f := by simpa using q1
    have f1 : f ≤ d.1.length := by simpa using q3
    rcases q4 with q4 | q4
    · have hr2 : r = 2 := by rw [hr, if_pos]; exact .inr (.inr (.inr (by simpa using q4)))
      subst hr2
      clear hr
      go_wp2
      go_ret
      exact ⟨rfl, hb1.out⟩
    · have hr2 : r = 0 := by
        rw [hr, if_neg]
        rintro (g | g | g | g)
        · simp [g] at q1
        · simp [g] at q2
        · simp [g] at q3
        · simp [g] at q4
      subst hr2
      clear hr
      go_wp2
      go_ret
      exact ⟨rfl, hb1.out⟩
  · rw [if_pos h0] at hr
    have h0' : ((c1 : Int) == 0) = false := by simp; exact h0
    subst hr
    clear hgd
    go_enter Tryz.func103, Tryz.ntmps103
    go_wp2_with fail
    refine (HC.out _ (hD.out.below hbl)).mono ?_
    rintro e w1 ⟨rfl, b1⟩
    have hb1 := Lib.hid (hbl.trans (b1.mono hbl.size))
    clear k1 k2 hsz hbl b1
    go_wp2
    go_ret
    exact ⟨rfl, hb1.out⟩
end Go.Proofs.YtmfbkelhegdmpaaGreatDoor
/- The walks of placed, Room, region, blank, chapter 12 (journal), the program's and the reference's. -/
namespace Go.Proofs.YtmfbkelhegdmpaaGreatDoor
open Go.RowKit Disk11 Journal12

theorem ret2 {a b c d : Int} (h : a = b) (g : c = d) : Ending.returned (.tuple #[.int .i64 a, .int .i64 c]) = .returned (.tuple #[.int .i64 b, .int .i64 d]) := by rw [h, g]
theorem length_nat (f b : Nat) (w : World) (h : b ≤ 4096) (P : Program) (n : Nat) (H : ∀ (f b : Int) (w : World), -4611686018427387904 < 64 * b → 64 * b < 4611686018427387904 → Calls P n #[.agg #[.int .i64 f, .int .i64 b]] w fun e w' => e = .returned (.int .i64 (64 * b)) ∧ Below w.heap.size w w') :
    Calls P n #[.agg #[.int .i64 (f : Int), .int .i64 (b : Int)]] w fun e w' => e = .returned (.int .i64 (64 * (b : Int))) ∧ Below w.heap.size w w' := H f b w (by omega) (by omega)
theorem placed_cases (d : Dev) (f b p : Int) : (chkJ d (f, b) ≠ 0 ∧ placedJ d (f, b) p = chkJ d (f, b)) ∨ (chkJ d (f, b) = 0 ∧ p < 0 ∧ placedJ d (f, b) p = 2) ∨ (chkJ d (f, b) = 0 ∧ ¬ p < 0 ∧ 64 * b < p ∧ placedJ d (f, b) p = 2) ∨ (chkJ d (f, b) = 0 ∧ ¬ p < 0 ∧ ¬ 64 * b < p ∧ placedJ d (f, b) p = 0) := by
  unfold placedJ
  by_cases h : chkJ d (f, b) = 0
  · rw [h]
    simp only [ne_eq, not_true_eq_false, if_false]
    by_cases h1 : p < 0
    · exact .inr (.inl ⟨trivial, h1, by rw [if_pos (.inl h1)]⟩)
    · by_cases h2 : 64 * b < p
      · exact .inr (.inr (.inl ⟨trivial, h1, h2, by rw [if_pos (.inr h2)]⟩))
      · exact .inr (.inr (.inr ⟨trivial, h1, h2, by rw [if_neg (fun g => g.elim h1 h2)]⟩))
  · exact .inl ⟨h, by rw [if_pos h]⟩

set_option maxHeartbeats 4000000 in
set_option maxRecDepth 100000 in
theorem placed_any (d : Dev) (v : Value) (f b p : Int) (w : World) (h : DiskIs w d v) :
    Calls Tryz.prog 97 #[v, .agg #[.int .i64 f, .int .i64 b], .int .i64 p] w fun e w' => e = .returned (.int .i64 (placedJ d (f, b) p)) ∧ Below w.heap.size w w' := by
  have HC := Lib.hid (fun W h => JCheck_any d v f b W h)
  have hD := Lib.hid h
  have hc := placed_cases d f b p
  have hfb : chkJ d (f, b) = 0 → -4611686018427387904 < 64 * b ∧ 64 * b < 4611686018427387904 := fun h => by
    obtain ⟨hg, f', b', e, _, h2⟩ := chkJ_ok h
    have := hg.2.1
    simp only [Prod.mk.injEq] at e
    omega
  obtain ⟨r, hr⟩ : ∃ r, r = placedJ d (f, b) p := ⟨_, rfl⟩
  obtain ⟨c, hcc⟩ : ∃ c, c = chkJ d (f, b) := ⟨_, rfl⟩
  rw [← hr, ← hcc] at hc
  rw [← hcc] at hfb HC
  rw [← hr]
  clear hr hcc
  obtain ⟨ab, cb, ac, cc, rfl, _, _, hbc, _⟩ := h.form
  clear h hbc
  obtain ⟨k1, k2, hsz, hbl⟩ := alloc2 w (.cells #[.slice ab d.1.length cb, .slice ac d.2.length cc] 29) (.cells #[.int .i64 f, .int .i64 b] 65)
  go_enter Tryz.func97, Tryz.ntmps97
  go_wp2_with fail
  refine (HC.out _ (hD.out.below hbl)).mono ?_
  rintro e w1 ⟨rfl, b1⟩
  have k2' := heap_below k2 b1
  have hb1 := Lib.hid (hbl.trans (b1.mono hbl.size))
  have r0 := cell2_0 k2'
  have r1 := cell2_1 k2'
  clear k1 k2 hsz hbl b1 k2'
  rcases hc with ⟨h1, rfl⟩ | ⟨rfl, h1, rfl⟩ | ⟨rfl, h1, h2, rfl⟩ | ⟨rfl, h1, h2, rfl⟩
  · have h0' : ((r : Int) == 0) = false := by simp; exact h1
    clear hfb h1
    go_wp2
    go_ret
    exact ⟨rfl, hb1.out⟩
  · have q1 : decide (p < 0) = true := by simp; exact h1
    clear hfb h1
    go_wp2
    go_ret
    exact ⟨rfl, hb1.out⟩
  · have q1 : decide (p < 0) = false := by simp; omega
    have q2 : decide (64 * b < p) = true := by simp; exact h2
    obtain ⟨g1, g2⟩ := hfb rfl
    have HL := Lib.hid (fun W => length_any f b W g1 g2)
    clear hfb h1 h2 g1 g2
    go_wp2_with fail
    refine (HL.out _).mono ?_
    rintro e w2 ⟨rfl, b2⟩
    have hb2 := Lib.hid (hb1.out.trans (b2.mono hb1.out.size))
    clear b2
    go_wp2
    go_ret
    exact ⟨rfl, hb2.out⟩
  · have q1 : decide (p < 0) = false := by simp; omega
    have q2 : decide (64 * b < p) = false := by simp; omega
    obtain ⟨g1, g2⟩ := hfb rfl
    have HL := Lib.hid (fun W => length_any f b W g1 g2)
    clear hfb h1 h2 g1 g2
    go_wp2_with fail
    refine (HL.out _).mono ?_
    rintro e w2 ⟨rfl, b2⟩
    have hb2 := Lib.hid (hb1.out.trans (b2.mono hb1.out.size))
    clear b2
    go_wp2
    go_ret
    exact ⟨rfl, hb2.out⟩

set_option maxHeartbeats 4000000 in
set_option maxRecDepth 100000 in
theorem Rplaced_any (d : Dev) (v : Value) (f b p : Int) (w : World) (h : DiskIs w d v) :
    Calls Tryz.prog 105 #[v, .agg #[.int .i64 f, .int .i64 b], .int .i64 p] w fun e w' => e = .returned (.int .i64 (placedJ d (f, b) p)) ∧ Below w.heap.size w w' := by
  have HC := Lib.hid (fun W h => RJCheck_any d v f b W h)
  have hD := Lib.hid h
  have hc := placed_cases d f b p
  have hfb : chkJ d (f, b) = 0 → -4611686018427387904 < 64 * b ∧ 64 * b < 4611686018427387904 := fun h => by
    obtain ⟨hg, f', b', e, _, h2⟩ := chkJ_ok h
    have := hg.2.1
    simp only [Prod.mk.injEq] at e
    omega
  obtain ⟨r, hr⟩ : ∃ r, r = placedJ d (f, b) p := ⟨_, rfl⟩
  obtain ⟨c, hcc⟩ : ∃ c, c = chkJ d (f, b) := ⟨_, rfl⟩
  rw [← hr, ← hcc] at hc
  rw [← hcc] at hfb HC
  rw [← hr]
  clear hr hcc
  obtain ⟨ab, cb, ac, cc, rfl, _, _, hbc, _⟩ := h.form
  clear h hbc
  obtain ⟨k1, k2, hsz, hbl⟩ := alloc2 w (.cells #[.slice ab d.1.length cb, .slice ac d.2.length cc] 29) (.cells #[.int .i64 f, .int .i64 b] 65)
  go_enter Tryz.func105, Tryz.ntmps105
  go_wp2_with fail
  refine (HC.out _ (hD.out.below hbl)).mono ?_
  rintro e w1 ⟨rfl, b1⟩
  have k2' := heap_below k2 b1
  have hb1 := Lib.hid (hbl.trans (b1.mono hbl.size))
  have r0 := cell2_0 k2'
  have r1 := cell2_1 k2'
  clear k1 k2 hsz hbl b1 k2'
  rcases hc with ⟨h1, rfl⟩ | ⟨rfl, h1, rfl⟩ | ⟨rfl, h1, h2, rfl⟩ | ⟨rfl, h1, h2, rfl⟩
  · have h0' : ((r : Int) == 0) = false := by simp; exact h1
    clear hfb h1
    go_wp2
    go_ret
    exact ⟨rfl, hb1.out⟩
  · have q1 : decide (p < 0) = true := by simp; exact h1
    clear hfb h1
    go_wp2
    go_ret
    exact ⟨rfl, hb1.out⟩
  · have q1 : decide (p < 0) = false := by simp; omega
    have q2 : decide (64 * b < p) = true := by simp; exact h2
    obtain ⟨g1, g2⟩ := hfb rfl
    have HL := Lib.hid (fun W => Rlength_any f b W g1 g2)
    clear hfb h1 h2 g1 g2
    go_wp2_with fail
    refine (HL.out _).mono ?_
    rintro e w2 ⟨rfl, b2⟩
    have hb2 := Lib.hid (hb1.out.trans (b2.mono hb1.out.size))
    clear b2
    go_wp2
    go_ret
    exact ⟨rfl, hb2.out⟩
  · have q1 : decide (p < 0) = false := by simp; omega
    have q2 : decide (64 * b < p) = false := by simp; omega
    obtain ⟨g1, g2⟩ := hfb rfl
    have HL := Lib.hid (fun W => Rlength_any f b W g1 g2)
    clear hfb h1 h2 g1 g2
    go_wp2_with fail
    refine (HL.out _).mono ?_
    rintro e w2 ⟨rfl, b2⟩
    have hb2 := Lib.hid (hb1.out.trans (b2.mono hb1.out.size))
    clear b2
    go_wp2
    go_ret
    exact ⟨rfl, hb2.out⟩

set_option maxHeartbeats 4000000 in
set_option maxRecDepth 100000 in
theorem Room_any (f b p : Int) (w : World) :
    Calls Tryz.prog 70 #[.agg #[.int .i64 f, .int .i64 b], .int .i64 p] w fun e w' => e = .returned (.tuple #[.int .i64 (roomJ (f, b) p).1, .int .i64 (roomJ (f, b) p).2]) ∧ Below w.heap.size w w' := by
  have k1 := World.alloc_heap_new w (.cells #[.int .i64 f, .int .i64 b] 65)
  have hbl := Lib.hid (Go.Joins.below_alloc1 w (.cells #[.int .i64 f, .int .i64 b] 65))
  have r0 := cell2_0 k1
  have r1 := cell2_1 k1
  clear k1
  have q1 : decide (f < 0) = true ∨ decide (f < 0) = false := by cases decide (f < 0) <;> simp
  have q2 : decide (b < 1) = true ∨ decide (b < 1) = false := by cases decide (b < 1) <;> simp
  have q3 : decide (4096 < b) = true ∨ decide (4096 < b) = false := by cases decide (4096 < b) <;> simp
  have q4 : decide (p < 0) = true ∨ decide (p < 0) = false := by cases decide (p < 0) <;> simp
  have q5 : decide (64 * b < p) = true ∨ decide (64 * b < p) = false := by cases decide (64 * b < p) <;> simp
  rcases q1 with q1 | q1
  · have hr : roomJ (f, b) p = (0, 2) := by unfold roomJ; rw [if_pos]; exact .inl (by simpa using q1)
    rw [hr]
    clear q2 q3 q4 q5 hr
    go_enter Tryz.func70, Tryz.ntmps70
    go_wp2
    exact bodyPost_ret (results_tmp2 rfl _ _ _) rfl ⟨rfl, hbl.out⟩
  rcases q2 with q2 | q2
  · have hr : roomJ (f, b) p = (0, 2) := by unfold roomJ; rw [if_pos]; exact .inr (.inl (by simpa using q2))
    rw [hr]
    clear q3 q4 q5 hr
    go_enter Tryz.func70, Tryz.ntmps70
    go_wp2
    exact bodyPost_ret (results_tmp2 rfl _ _ _) rfl ⟨rfl, hbl.out⟩
  rcases q3 with q3 | q3
  · have hr : roomJ (f, b) p = (0, 2) := by unfold roomJ; rw [if_pos]; exact .inr (.inr (.inl (by simpa using q3)))
    rw [hr]
    clear q4 q5 hr
    go_enter Tryz.func70, Tryz.ntmps70
    go_wp2
    exact bodyPost_ret (results_tmp2 rfl _ _ _) rfl ⟨rfl, hbl.out⟩
  rcases q4 with q4 | q4
  · have hr : roomJ (f, b) p = (0, 2) := by unfold roomJ; rw [if_pos]; exact .inr (.inr (.inr (.inl (by simpa using q4))))
    rw [hr]
    clear q5 hr
    go_enter Tryz.func70, Tryz.ntmps70
    go_wp2
    exact bodyPost_ret (results_tmp2 rfl _ _ _) rfl ⟨rfl, hbl.out⟩
  have g2 : 1 ≤ b := by have := q2; simp at this; omega
  have g3 : b ≤ 4096 := by simpa using q3
  have g4 : 0 ≤ p := by simpa using q4
  have HL := Lib.hid (fun W => length_any f b W (by omega) (by omega))
  rcases q5 with q5 | q5
  · have hr : roomJ (f, b) p = (0, 2) := by unfold roomJ; rw [if_pos]; exact .inr (.inr (.inr (.inr (by simpa using q5))))
    rw [hr]
    clear hr
    go_enter Tryz.func70, Tryz.ntmps70
    go_wp2_with fail
    refine (HL.out _).mono ?_
    rintro e w2 ⟨rfl, b2⟩
    have hb2 := Lib.hid (hbl.out.trans (b2.mono hbl.out.size))
    clear b2
    go_wp2
    exact bodyPost_ret (results_tmp2 rfl _ _ _) rfl ⟨rfl, hb2.out⟩
  · have g5 : p ≤ 64 * b := by simpa using q5
    have hr : roomJ (f, b) p = (max 0 (min 60000 (64 * b - p - 10)), 0) := by
      unfold roomJ; rw [if_neg]
      rintro (g | g | g | g | g)
      · simp [g] at q1
      · simp [g] at q2
      · simp [g] at q3
      · simp [g] at q4
      · simp [g] at q5
    rw [hr]
    clear hr
    go_enter Tryz.func70, Tryz.ntmps70
    go_wp2_with fail
    refine (HL.out _).mono ?_
    rintro e w2 ⟨rfl, b2⟩
    have hb2 := Lib.hid (hbl.out.trans (b2.mono hbl.out.size))
    have m0 := cell_below b2 r0
    have m1 := cell_below b2 r1
    clear b2
    go_wp2_with fail
    refine (HL.out _).mono ?_
    rintro e w3 ⟨rfl, b3⟩
    have hb3 := Lib.hid (hb2.out.trans (b3.mono hb2.out.size))
    clear b3
    go_wp2
    all_goals (
      refine bodyPost_ret (results_tmp2 rfl _ _ _) rfl ⟨?_, hb3.out⟩
      simp
      omega)

set_option maxHeartbeats 4000000 in
set_option maxRecDepth 100000 in
theorem RRoom_any (f b p : Int) (w : World) :
    Calls Tryz.prog 72 #[.agg #[.int .i64 f, .int .i64 b], .int .i64 p] w fun e w' => e = .returned (.tuple #[.int .i64 (roomJ (f, b) p).1, .int .i64 (roomJ (f, b) p).2]) ∧ Below w.heap.size w w' := by
  have k1 := World.alloc_heap_new w (.cells #[.int .i64 f, .int .i64 b] 65)
  have hbl := Lib.hid (Go.Joins.below_alloc1 w (.cells #[.int .i64 f, .int .i64 b] 65))
  have r0 := cell2_0 k1
  have r1 := cell2_1 k1
  clear k1
  have q1 : decide (f < 0) = true ∨ decide (f < 0) = false := by cases decide (f < 0) <;> simp
  have q2 : decide (b < 1) = true ∨ decide (b < 1) = false := by cases decide (b < 1) <;> simp
  have q3 : decide (4096 < b) = true ∨ decide (4096 < b) = false := by cases decide (4096 < b) <;> simp
  have q4 : decide (p < 0) = true ∨ decide (p < 0) = false := by cases decide (p < 0) <;> simp
  have q5 : decide (64 * b < p) = true ∨ decide (64 * b < p) = false := by cases decide (64 * b < p) <;> simp
  rcases q1 with q1 | q1
  · have hr : roomJ (f, b) p = (0, 2) := by unfold roomJ; rw [if_pos]; exact .inl (by simpa using q1)
    rw [hr]
    clear q2 q3 q4 q5 hr
    go_enter Tryz.func72, Tryz.ntmps72
    go_wp2
    exact bodyPost_ret (results_tmp2 rfl _ _ _) rfl ⟨rfl, hbl.out⟩
  rcases q2 with q2 | q2
  · have hr : roomJ (f, b) p = (0, 2) := by unfold roomJ; rw [if_pos]; exact .inr (.inl (by simpa using q2))
    rw [hr]
    clear q3 q4 q5 hr
    go_enter Tryz.func72, Tryz.ntmps72
    go_wp2
    exact bodyPost_ret (results_tmp2 rfl _ _ _) rfl ⟨rfl, hbl.out⟩
  rcases q3 with q3 | q3
  · have hr : roomJ (f, b) p = (0, 2) := by unfold roomJ; rw [if_pos]; exact .inr (.inr (.inl (by simpa using q3)))
    rw [hr]
    clear q4 q5 hr
    go_enter Tryz.func72, Tryz.ntmps72
    go_wp2
    exact bodyPost_ret (results_tmp2 rfl _ _ _) rfl ⟨rfl, hbl.out⟩
  rcases q4 with q4 | q4
  · have hr : roomJ (f, b) p = (0, 2) := by unfold roomJ; rw [if_pos]; exact .inr (.inr (.inr (.inl (by simpa using q4))))
    rw [hr]
    clear q5 hr
    go_enter Tryz.func72, Tryz.ntmps72
    go_wp2
    exact bodyPost_ret (results_tmp2 rfl _ _ _) rfl ⟨rfl, hbl.out⟩
  have g2 : 1 ≤ b := by have := q2; simp at this; omega
  have g3 : b ≤ 4096 := by simpa using q3
  have g4 : 0 ≤ p := by simpa using q4
  have HL := Lib.hid (fun W => Rlength_any f b W (by omega) (by omega))
  rcases q5 with q5 | q5
  · have hr : roomJ (f, b) p = (0, 2) := by unfold roomJ; rw [if_pos]; exact .inr (.inr (.inr (.inr (by simpa using q5))))
    rw [hr]
    clear hr
    go_enter Tryz.func72, Tryz.ntmps72
    go_wp2_with fail
    refine (HL.out _).mono ?_
    rintro e w2 ⟨rfl, b2⟩
    have hb2 := Lib.hid (hbl.out.trans (b2.mono hbl.out.size))
    clear b2
    go_wp2
    exact bodyPost_ret (results_tmp2 rfl _ _ _) rfl ⟨rfl, hb2.out⟩
  · have g5 : p ≤ 64 * b := by simpa using q5
    have hr : roomJ (f, b) p = (max 0 (min 60000 (64 * b - p - 10)), 0) := by
      unfold roomJ; rw [if_neg]
      rintro (g | g | g | g | g)
      · simp [g] at q1
      · simp [g] at q2
      · simp [g] at q3
      · simp [g] at q4
      · simp [g] at q5
    rw [hr]
    clear hr
    go_enter Tryz.func72, Tryz.ntmps72
    go_wp2_with fail
    refine (HL.out _).mono ?_
    rintro e w2 ⟨rfl, b2⟩
    have hb2 := Lib.hid (hbl.out.trans (b2.mono hbl.out.size))
    have m0 := cell_below b2 r0
    have m1 := cell_below b2 r1
    clear b2
    go_wp2_with fail
    refine (HL.out _).mono ?_
    rintro e w3 ⟨rfl, b3⟩
    have hb3 := Lib.hid (hb2.out.trans (b3.mono hb2.out.size))
    clear b3
    go_wp2
    all_goals (
      refine bodyPost_ret (results_tmp2 rfl _ _ _) rfl ⟨?_, hb3.out⟩
      simp
      omega)
end Go.Proofs.YtmfbkelhegdmpaaGreatDoor
/- The walks of region, read, blank, chapter 12 (journal). -/
namespace Go.Proofs.YtmfbkelhegdmpaaGreatDoor
open Go.RowKit Disk11 Journal12

set_option maxHeartbeats 4000000 in
set_option maxRecDepth 100000 in
theorem region_any (d : Dev) (v : Value) (f b : Nat) (w : World) (h : DiskIs w d v) (hg : Disk11.Good d) (hf : f + b ≤ d.1.length) :
    Calls Tryz.prog 93 #[v, .agg #[.int .i64 (f : Int), .int .i64 (b : Int)]] w fun e w' => e = .returned (.string ⟨(regJ d ((f : Int), (b : Int))).toArray⟩) ∧ Below w.heap.size w w' := by
  have hl := hg.2.1
  have HR := Lib.hid (fun W h => Read_any d v (64 * (f : Int)) (64 * (b : Int)) W h)
  rw [regJ_read hg hf] at HR
  dsimp only at HR
  have HL := Lib.hid (fun W => length_any (f : Int) (b : Int) W (by omega) (by omega))
  have hD := Lib.hid h
  obtain ⟨R, hR⟩ : ∃ R, R = regJ d ((f : Int), (b : Int)) := ⟨_, rfl⟩
  rw [← hR] at HR ⊢
  clear hR hg
  obtain ⟨ab, cb, ac, cc, rfl, _, _, hbc, _⟩ := h.form
  clear h hbc
  obtain ⟨k1, k2, hsz, hbl⟩ := alloc2 w (.cells #[.slice ab d.1.length cb, .slice ac d.2.length cc] 29) (.cells #[.int .i64 (f : Int), .int .i64 (b : Int)] 65)
  have c0 := cell2_0 k1
  have c1 := cell2_1 k1
  have r0 := cell2_0 k2
  have r1 := cell2_1 k2
  have B := Lib.hid hbl.drew
  have e1 : IntKind.i64.wrap (64 * (f : Int)) = 64 * (f : Int) := by rw [IntKind.wrap_i64]; omega
  clear k1 k2 hsz hbl
  go_enter Tryz.func93, Tryz.ntmps93
  go_wp2_with fail
  go_region_held3 (fun V => V.cell? ⟨w.heap.size, 0, none⟩ = some (.slice ab d.1.length cb) ∧ V.cell? ⟨w.heap.size, 1, none⟩ = some (.slice ac d.2.length cc) ∧ V.cell? ⟨w.heap.size + 1, 0, none⟩ = some (.int .i64 (f : Int)) ∧ V.cell? ⟨w.heap.size + 1, 1, none⟩ = some (.int .i64 (b : Int)))
    (first | exact ⟨c0, c1, r0, r1⟩ | exact ⟨o0, o1, o2, o3⟩ | exact ⟨p0, p1, p2, p3⟩ | go_keep)
    (first
      | (go_at_call 99; refine (HL.out _).mono ?_; rintro e w5 ⟨rfl, b5⟩
         have o0 := cell_below b5 c0; have o1 := cell_below b5 c1; have o2 := cell_below b5 r0; have o3 := cell_below b5 r1
         have B5 := Lib.hid (B.out.trans (b5.mono B.out.size)))
      | (go_at_call 90; refine (HR.out _ (hD.out.below B5.out)).mono ?_; rintro e w6 ⟨rfl, b6⟩
         have p0 := cell_below b6 o0; have p1 := cell_below b6 o1; have p2 := cell_below b6 o2; have p3 := cell_below b6 o3
         have B6 := Lib.hid (B5.out.trans (b6.mono B5.out.size))))
  go_wp2
  go_ret
  exact ⟨rfl, B6.out⟩

theorem regJ_part {d : Dev} {f b q n : Nat} (h : Disk11.Good d) (hf : f + b ≤ d.1.length) (hq : q + n ≤ 64 * b) : readD d (64 * (f : Int) + (q : Int)) (n : Int) = (((regJ d ((f : Int), (b : Int))).drop q).take n, 0) := by
  unfold readD
  have hi : inside (Disk11.size d) (64 * (f : Int) + (q : Int)) (n : Int) = true := by rw [inside_iff]; unfold Disk11.size; omega
  rw [good_chk h, if_neg (by simp), hi, if_neg (by simp), regJ_nat]
  have e1 : (64 * (f : Int) + (q : Int)).toNat = 64 * f + q := by omega
  rw [e1, Int.toNat_natCast, List.drop_take, List.drop_drop, List.take_take, Nat.min_eq_left (by omega)]
set_option maxHeartbeats 4000000 in
set_option maxRecDepth 100000 in
theorem Rread_any (d : Dev) (v : Value) (f b q n : Nat) (w : World) (h : DiskIs w d v) (hg : Disk11.Good d) (hf : f + b ≤ d.1.length) (hq : q + n ≤ 64 * b) :
    Calls Tryz.prog 107 #[v, .agg #[.int .i64 (f : Int), .int .i64 (b : Int)], .int .i64 (q : Int), .int .i64 (n : Int)] w fun e w' => e = .returned (.string ⟨(((regJ d ((f : Int), (b : Int))).drop q).take n).toArray⟩) ∧ Below w.heap.size w w' := by
  have hl := hg.2.1
  have HR := Lib.hid (fun W h => RRead_any d v (64 * (f : Int) + (q : Int)) (n : Int) W h)
  rw [regJ_part hg hf hq] at HR
  dsimp only at HR
  have hD := Lib.hid h
  obtain ⟨R, hR⟩ : ∃ R, R = ((regJ d ((f : Int), (b : Int))).drop q).take n := ⟨_, rfl⟩
  rw [← hR] at HR ⊢
  clear hR hg
  obtain ⟨ab, cb, ac, cc, rfl, _, _, hbc, _⟩ := h.form
  clear h hbc
  obtain ⟨k1, k2, hsz, hbl⟩ := alloc2 w (.cells #[.slice ab d.1.length cb, .slice ac d.2.length cc] 29) (.cells #[.int .i64 (f : Int), .int .i64 (b : Int)] 65)
  have r0 := cell2_0 k2
  have B := Lib.hid hbl
  have e1 : IntKind.i64.wrap (64 * (f : Int)) = 64 * (f : Int) := by rw [IntKind.wrap_i64]; omega
  clear k1 k2 hsz hbl
  go_enter Tryz.func107, Tryz.ntmps107
  go_wp2_with fail
  refine (HR.out _ (hD.out.below B.out)).mono ?_
  rintro e w5 ⟨rfl, b5⟩
  have B5 := Lib.hid (B.out.trans (b5.mono B.out.size))
  clear b5 r0
  go_wp2
  go_ret
  exact ⟨rfl, B5.out⟩

theorem blank_to {x : List UInt8} (h : ∀ (k : Nat) (hk : k < x.length), x[k] = 0) : blankJ x = true := by
  unfold blankJ
  rw [List.all_eq_true]
  intro b hb
  obtain ⟨k, hk, rfl⟩ := List.getElem_of_mem hb
  simp [h k hk]
theorem blank_no {x : List UInt8} {k : Nat} (hk : k < x.length) (h : x[k] ≠ 0) : blankJ x = false := by
  unfold blankJ
  rw [List.all_eq_false]
  exact ⟨x[k], List.getElem_mem hk, by simpa using h⟩
set_option maxHeartbeats 1000000 in
set_option maxRecDepth 100000 in
theorem blank_any (x : List UInt8) (w : World) (hx : x.length ≤ 4611686018427387904) :
    Calls Tryz.prog 106 #[.string ⟨x.toArray⟩] w fun e w' => e = .returned (.bool (blankJ x)) ∧ w' = w := by
  have hs : (⟨x.toArray⟩ : ByteArray).size = x.length := rfl
  go_enter Tryz.func106, Tryz.ntmps106
  go_wp2_with fail
  go_loop [3] (fun i => ∃ k : Nat, k ≤ x.length ∧ i = .int .i64 k ∧ Hid (∀ (j : Nat) (hj : j < x.length), j < k → x[j] = 0)) (fun i => x.length - (intOf i).toNat)
  case atStart => exact ⟨0, Nat.zero_le _, rfl, fun _ _ h => absurd h (Nat.not_lt_zero _)⟩
  case round =>
    obtain ⟨k, hk, rfl, hz⟩ := hrel
    by_cases hlt : k < x.length
    · have hg : ((⟨x.toArray⟩ : ByteArray)[k]'hlt) = x[k] := rfl
      by_cases h0 : x[k] = 0
      · have hb : ((x[k].toNat : Int) == 0) = true := by rw [h0]; rfl
        go_wp2
        go_round
        case rel => exact ⟨k + 1, by omega, by go_num, fun j hj hjk => by
          by_cases e : j = k
          · subst e; exact h0
          · exact hz.out j hj (by omega)⟩
        case measure => simp [intOf]; omega
      · have hb : ((x[k].toNat : Int) == 0) = false := by
          rw [beq_eq_false_iff_ne]; intro e; exact h0 (UInt8.toNat_inj.1 (by simpa using e))
        go_wp2
        go_ret
        exact ⟨by rw [blank_no hlt h0]; rfl, rfl⟩
    · go_wp2
      go_ret
      exact ⟨by rw [blank_to fun j hj => hz.out j hj (by omega)]; rfl, rfl⟩
end Go.Proofs.YtmfbkelhegdmpaaGreatDoor
