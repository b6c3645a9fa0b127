/- The walks of the small functions on a device and a region, chapter 12 (journal), the program's and the reference's. -/
import Derived.Test.YthhghggaoljcbaaDoorJPlain
import Derived.Test.YthhghggaoljcbaaDoorDiskH
import Derived.Test.YthhghggaoljcbaaDoorDiskS
import Derived.BigQuiet
import Derived.Deep.QuietTactic
namespace Go.Proofs.YthhghggaoljcbaaDoor
open Go.RowKit Disk11 Journal12

abbrev regV (r : Reg) : Value := .agg #[.int .i64 r.1, .int .i64 r.2]
theorem good_len {d : Dev} (h : (chk d).1 = 0) : d.1.length ≤ 4096 := ((chk_good d).1 (chk_ok h)).2.1
theorem ret_i64 {a b : Int} (h : a = b) : Ending.returned (.int .i64 a) = .returned (.int .i64 b) := by rw [h]

theorem length_any (f b : Int) (w : World) (h1 : -4611686018427387904 < 64 * b) (h2 : 64 * b < 4611686018427387904) :
    Calls Tryd.prog 47 #[.agg #[.int .i64 f, .int .i64 b]] w fun e w' => e = .returned (.int .i64 (64 * b)) ∧ Below w.heap.size w w' := by
  have k1 := World.alloc_heap_new w (.cells #[.int .i64 f, .int .i64 b] 27)
  have hbl := Go.Joins.below_alloc1 w (.cells #[.int .i64 f, .int .i64 b] 27)
  have c0 := cell2_1 k1
  have e1 : IntKind.i64.wrap (64 * b) = 64 * b := by rw [IntKind.wrap_i64]; omega
  have hB := Lib.hid hbl
  clear hbl k1
  go_enter Tryd.func47, Tryd.ntmps47
  go_wp2
  go_ret
  exact ⟨rfl, hB.out⟩

theorem Rlength_any (f b : Int) (w : World) (h1 : -4611686018427387904 < 64 * b) (h2 : 64 * b < 4611686018427387904) :
    Calls Tryd.prog 52 #[.agg #[.int .i64 f, .int .i64 b]] w fun e w' => e = .returned (.int .i64 (64 * b)) ∧ Below w.heap.size w w' := by
  have k1 := World.alloc_heap_new w (.cells #[.int .i64 f, .int .i64 b] 27)
  have hbl := Go.Joins.below_alloc1 w (.cells #[.int .i64 f, .int .i64 b] 27)
  have c0 := cell2_1 k1
  have e1 : IntKind.i64.wrap (64 * b) = 64 * b := by rw [IntKind.wrap_i64]; omega
  have hB := Lib.hid hbl
  clear hbl k1
  go_enter Tryd.func52, Tryd.ntmps52
  go_wp2
  go_ret
  exact ⟨rfl, hB.out⟩

theorem Size_any (x : List UInt8) (w : World) (hx : x.length ≤ 4611686018427387904) :
    Calls Tryd.prog 15 #[.string ⟨x.toArray⟩] w fun e w' => e = .returned (.tuple #[.int .i64 (sizeF x).1, .int .i64 (sizeF x).2]) ∧ w' = w := by
  unfold sizeF
  by_cases h : x = []
  · subst h
    rw [if_pos rfl]
    go_enter Tryd.func15, Tryd.ntmps15
    go_wp2
    exact bodyPost_ret (results_tmp2 rfl _ _ _) rfl ⟨rfl, rfl⟩
  · have hne : x.isEmpty = false := by cases x <;> simp_all
    have hs : (⟨x.toArray⟩ : ByteArray).size = x.length := rfl
    rw [if_neg h]
    by_cases h2 : 60000 < x.length
    · have h2' : decide ((60000 : Int) < x.length) = true := by simp; omega
      rw [if_pos h2]
      go_enter Tryd.func15, Tryd.ntmps15
      go_wp2
      exact bodyPost_ret (results_tmp2 rfl _ _ _) rfl ⟨rfl, rfl⟩
    · have h2' : decide ((60000 : Int) < x.length) = false := by simp; omega
      rw [if_neg h2]
      go_enter Tryd.func15, Tryd.ntmps15
      go_wp2
      exact bodyPost_ret (results_tmp2 rfl _ _ _) rfl ⟨rfl, rfl⟩

theorem RSize_any (x : List UInt8) (w : World) (hx : x.length ≤ 4611686018427387904) :
    Calls Tryd.prog 16 #[.string ⟨x.toArray⟩] w fun e w' => e = .returned (.tuple #[.int .i64 (sizeF x).1, .int .i64 (sizeF x).2]) ∧ w' = w := by
  unfold sizeF
  by_cases h : x = []
  · subst h
    rw [if_pos rfl]
    go_enter Tryd.func16, Tryd.ntmps16
    go_wp2
    exact bodyPost_ret (results_tmp2 rfl _ _ _) rfl ⟨rfl, rfl⟩
  · have hne : x.isEmpty = false := by cases x <;> simp_all
    have hs : (⟨x.toArray⟩ : ByteArray).size = x.length := rfl
    rw [if_neg h]
    by_cases h2 : 60000 < x.length
    · have h2' : decide ((60000 : Int) < x.length) = true := by simp; omega
      rw [if_pos h2]
      go_enter Tryd.func16, Tryd.ntmps16
      go_wp2
      exact bodyPost_ret (results_tmp2 rfl _ _ _) rfl ⟨rfl, rfl⟩
    · have h2' : decide ((60000 : Int) < x.length) = false := by simp; omega
      rw [if_neg h2]
      go_enter Tryd.func16, Tryd.ntmps16
      go_wp2
      exact bodyPost_ret (results_tmp2 rfl _ _ _) rfl ⟨rfl, rfl⟩

set_option maxHeartbeats 4000000 in
set_option maxRecDepth 100000 in
theorem JCheck_any (d : Dev) (v : Value) (f b : Int) (w : World) (h : DiskIs w d v) :
    Calls Tryd.prog 18 #[v, .agg #[.int .i64 f, .int .i64 b]] w fun e w' => e = .returned (.int .i64 (chkJ d (f, b))) ∧ Below w.heap.size w w' := by
  have HC := Lib.hid (fun W h => Check_any d v W h)
  have hD := Lib.hid h
  have hgd : (chk d).1 = 0 → d.1.length ≤ 4096 := good_len
  obtain ⟨r, hr⟩ : ∃ r, r = chkJ d (f, b) := ⟨_, rfl⟩
  rw [← hr]
  unfold chkJ at hr
  obtain ⟨c, hc⟩ : ∃ c, c = chk d := ⟨_, rfl⟩
  rw [← hc] at hr hgd HC
  clear hc
  obtain ⟨c1, c2⟩ := c
  dsimp only at hr hgd HC
  obtain ⟨ab, cb, ac, cc, rfl, _, _, hbc, hcc⟩ := h.form
  clear h hbc hcc
  obtain ⟨k1, k2, hsz, hbl⟩ := alloc2 w (.cells #[.slice ab d.1.length cb, .slice ac d.2.length cc] 25) (.cells #[.int .i64 f, .int .i64 b] 27)
  by_cases h0 : c1 = 0
  · subst h0
    have hl := hgd rfl
    clear hgd
    rw [if_neg (by simp)] at hr
    have q1 : decide (f < 0) = true ∨ decide (f < 0) = false := by cases decide (f < 0) <;> simp
    have q2 : decide (b < 1) = true ∨ decide (b < 1) = false := by cases decide (b < 1) <;> simp
    have q3 : decide ((d.1.length : Int) < f) = true ∨ decide ((d.1.length : Int) < f) = false := by cases decide ((d.1.length : Int) < f) <;> simp
    have q4 : decide ((d.1.length : Int) - f < b) = true ∨ decide ((d.1.length : Int) - f < b) = false := by cases decide ((d.1.length : Int) - f < b) <;> simp
    go_enter Tryd.func18, Tryd.ntmps18
    go_wp2_with fail
    refine (HC.out _ (hD.out.below hbl)).mono ?_
    rintro e w1 ⟨rfl, b1⟩
    have k1' := heap_below k1 b1
    have k2' := heap_below k2 b1
    have hb1 := Lib.hid (hbl.trans (b1.mono hbl.size))
    have c0 := cell2_0 k1'
    have r0 := cell2_0 k2'
    have r1 := cell2_1 k2'
    clear k1 k2 k1' k2' hsz hbl b1
    rcases q1 with q1 | q1
    · have hr2 : r = 2 := by rw [hr, if_pos]; exact .inl (by simpa using q1)
      subst hr2
      clear hr q2 q3 q4
      go_wp2
      go_ret
      exact ⟨rfl, hb1.out⟩
    rcases q2 with q2 | q2
    · have hr2 : r = 2 := by rw [hr, if_pos]; exact .inr (.inl (by simpa using q2))
      subst hr2
      clear hr q3 q4
      go_wp2
      go_ret
      exact ⟨rfl, hb1.out⟩
    rcases q3 with q3 | q3
    · have hr2 : r = 2 := by rw [hr, if_pos]; exact .inr (.inr (.inl (by simpa using q3)))
      subst hr2
      clear hr q4
      go_wp2
      go_ret
      exact ⟨rfl, hb1.out⟩
    have f0 : 0 ≤ f := by simpa using q1
    have f1 : f ≤ d.1.length := by simpa using q3
    rcases q4 with q4 | q4
    · have hr2 : r = 2 := by rw [hr, if_pos]; exact .inr (.inr (.inr (by simpa using q4)))
      subst hr2
      clear hr
      go_wp2
      go_ret
      exact ⟨rfl, hb1.out⟩
    · have hr2 : r = 0 := by
        rw [hr, if_neg]
        rintro (g | g | g | g)
        · simp [g] at q1
        · simp [g] at q2
        · simp [g] at q3
        · simp [g] at q4
      subst hr2
      clear hr
      go_wp2
      go_ret
      exact ⟨rfl, hb1.out⟩
  · rw [if_pos h0] at hr
    have h0' : ((c1 : Int) == 0) = false := by simp; exact h0
    subst hr
    clear hgd
    go_enter Tryd.func18, Tryd.ntmps18
    go_wp2_with fail
    refine (HC.out _ (hD.out.below hbl)).mono ?_
    rintro e w1 ⟨rfl, b1⟩
    have hb1 := Lib.hid (hbl.trans (b1.mono hbl.size))
    clear k1 k2 hsz hbl b1
    go_wp2
    go_ret
    exact ⟨rfl, hb1.out⟩

set_option maxHeartbeats 4000000 in
set_option maxRecDepth 100000 in
theorem RJCheck_any (d : Dev) (v : Value) (f b : Int) (w : World) (h : DiskIs w d v) :
    Calls Tryd.prog 19 #[v, .agg #[.int .i64 f, .int .i64 b]] w fun e w' => e = .returned (.int .i64 (chkJ d (f, b))) ∧ Below w.heap.size w w' := by
  have HC := Lib.hid (fun W h => RCheck_any d v W h)
  have hD := Lib.hid h
  have hgd : (chk d).1 = 0 → d.1.length ≤ 4096 := good_len
  obtain ⟨r, hr⟩ : ∃ r, r = chkJ d (f, b) := ⟨_, rfl⟩
  rw [← hr]
  unfold chkJ at hr
  obtain ⟨c, hc⟩ : ∃ c, c = chk d := ⟨_, rfl⟩
  rw [← hc] at hr hgd HC
  clear hc
  obtain ⟨c1, c2⟩ := c
  dsimp only at hr hgd HC
  obtain ⟨ab, cb, ac, cc, rfl, _, _, hbc, hcc⟩ := h.form
  clear h hbc hcc
  obtain ⟨k1, k2, hsz, hbl⟩ := alloc2 w (.cells #[.slice ab d.1.length cb, .slice ac d.2.length cc] 25) (.cells #[.int .i64 f, .int .i64 b] 27)
  by_cases h0 : c1 = 0
  · subst h0
    have hl := hgd rfl
    clear hgd
    rw [if_neg (by simp)] at hr
    have q1 : decide (f < 0) = true ∨ decide (f < 0) = false := by cases decide (f < 0) <;> simp
    have q2 : decide (b < 1) = true ∨ decide (b < 1) = false := by cases decide (b < 1) <;> simp
    have q3 : decide ((d.1.length : Int) < f) = true ∨ decide ((d.1.length : Int) < f) = false := by cases decide ((d.1.length : Int) < f) <;> simp
    have q4 : decide ((d.1.length : Int) - f < b) = true ∨ decide ((d.1.length : Int) - f < b) = false := by cases decide ((d.1.length : Int) - f < b) <;> simp
    go_enter Tryd.func19, Tryd.ntmps19
    go_wp2_with fail
    refine (HC.out _ (hD.out.below hbl)).mono ?_
    rintro e w1 ⟨rfl, b1⟩
    have k1' := heap_below k1 b1
    have k2' := heap_below k2 b1
    have hb1 := Lib.hid (hbl.trans (b1.mono hbl.size))
    have c0 := cell2_0 k1'
    have r0 := cell2_0 k2'
    have r1 := cell2_1 k2'
    clear k1 k2 k1' k2' hsz hbl b1
    rcases q1 with q1 | q1
    · have hr2 : r = 2 := by rw [hr, if_pos]; exact .inl (by simpa using q1)
      subst hr2
      clear hr q2 q3 q4
      go_wp2
      go_ret
      exact ⟨rfl, hb1.out⟩
    rcases q2 with q2 | q2
    · have hr2 : r = 2 := by rw [hr, if_pos]; exact .inr (.inl (by simpa using q2))
      subst hr2
      clear hr q3 q4
      go_wp2
      go_ret
      exact ⟨rfl, hb1.out⟩
    rcases q3 with q3 | q3
    · have hr2 : r = 2 := by rw [hr, if_pos]; exact .inr (.inr (.inl (by simpa using q3)))
      subst hr2
      clear hr q4
      go_wp2
      go_ret
      exact ⟨rfl, hb1.out⟩
    have f0 : 0 ≤ f := by simpa using q1
    have f1 : f ≤ d.1.length := by simpa using q3
    rcases q4 with q4 | q4
    · have hr2 : r = 2 := by rw [hr, if_pos]; exact .inr (.inr (.inr (by simpa using q4)))
      subst hr2
      clear hr
      go_wp2
      go_ret
      exact ⟨rfl, hb1.out⟩
    · have hr2 : r = 0 := by
        rw [hr, if_neg]
        rintro (g | g | g | g)
        · simp [g] at q1
        · simp [g] at q2
        · simp [g] at q3
        · simp [g] at q4
      subst hr2
      clear hr
      go_wp2
      go_ret
      exact ⟨rfl, hb1.out⟩
  · rw [if_pos h0] at hr
    have h0' : ((c1 : Int) == 0) = false := by simp; exact h0
    subst hr
    clear hgd
    go_enter Tryd.func19, Tryd.ntmps19
    go_wp2_with fail
    refine (HC.out _ (hD.out.below hbl)).mono ?_
    rintro e w1 ⟨rfl, b1⟩
    have hb1 := Lib.hid (hbl.trans (b1.mono hbl.size))
    clear k1 k2 hsz hbl b1
    go_wp2
    go_ret
    exact ⟨rfl, hb1.out⟩
end Go.Proofs.YthhghggaoljcbaaDoor
