/- The walk of the statement StuffSplits. -/
import Derived.Test.YtcpahelmaejjeaaDoorStuffI
namespace Go.Proofs.YtcpahelmaejjeaaDoor
open Go.RowKit Go.Shelf Stuff10

attribute [local go_sem] Oper.semAt_some

set_option maxHeartbeats 1000000 in
set_option maxRecDepth 100000 in
theorem RSplit_any (s : ByteArray) (w : World) :
    Calls Tryd.prog 21 #[.string s] w fun e w' => ∃ v, e = .returned (.tuple #[v, .int .i64 (splitR s.data.toList).1.1.2, .string ⟨(splitR s.data.toList).1.2.toArray⟩, .int .i64 (splitR s.data.toList).2]) ∧ Txt w' w.heap.size v (splitR s.data.toList).1.1.1 ∧ Below w.heap.size w w' := by
  unfold splitR
  rw [length_size]
  by_cases h : 20000 < s.size
  · rw [if_pos h]
    have h' : decide ((20000 : Int) < s.size) = true := by simp; omega
    go_enter Tryd.func21, Tryd.ntmps21
    go_wp2
    refine bodyPost_ret (results_tmp4 rfl _ _ _) rfl ⟨_, rfl, Txt.nil _ _, Below.refl _ _⟩
  · rw [if_neg h]
    have h' : decide ((20000 : Int) < s.size) = false := by simp; omega
    have hc := fun W => Lib.hid (rparts_any s (by omega) W)
    obtain ⟨r, hr⟩ : ∃ r, r = splitS s.data.toList := ⟨_, rfl⟩
    rw [← hr] at hc ⊢
    clear hr
    go_enter Tryd.func21, Tryd.ntmps21
    go_wp2_with fail
    refine ((hc w).out).mono ?_
    rintro e w1 ⟨v, rfl, ht, hb⟩
    obtain ⟨ad, c, rfl⟩ := ht.slice
    go_wp2
    refine bodyPost_ret (results_tmp4 rfl _ _ _) rfl ⟨_, rfl, ht, hb⟩

theorem Same_true (a : List (List UInt8)) (va vb : Value) (B1 B2 : Nat) (w : World) (ha : Txt w B1 va a) (hb : Txt w B2 vb a) (hla : a.length < 4398046511104) :
    Calls Tryd.prog 22 #[va, vb] w fun e w' => e = .returned (.bool true) ∧ Below w.heap.size w w' :=
  (Same_any a a va vb B1 B2 w ha hb hla).mono fun e w' ⟨h1, h2⟩ => ⟨by rw [h1, decide_eq_true rfl], h2⟩
theorem splitR_small (l : List UInt8) : (splitR l).1.1.1.length + (splitR l).1.1.2 ≤ l.length + 1 := by
  unfold splitR
  split
  · simp
  · obtain ⟨pre, p, h1, h2, h3⟩ := segs_end (l.length + 1) l ([], 0) (by omega)
    have h4 := after_count pre ([], 0)
    have h5 := (segs_le (l.length + 1) l).1
    rw [h1] at h5
    simp only [List.length_append, List.length_cons, List.length_nil] at h4 h5
    show (splitS l).1.1.length + (splitS l).1.2 ≤ _
    unfold splitS
    rw [h3]
    dsimp only; omega

set_option maxHeartbeats 4000000 in
set_option maxRecDepth 100000 in
theorem splitsLaw_any (m : Int) (s : ByteArray) (w : World) (hG : 1 < w.heap.size) (hm : MaxIs m w) :
    Calls Tryd.prog 6 #[.string s] w fun e w' => e = .returned (.bool true) ∧ Below w.heap.size w w' := by
  have HA := Lib.hid (fun W => awake_any W)
  by_cases hsmall : s.size ≤ 3000 ∨ (20000 < s.size ∧ s.size ≤ 20100)
  · have C1 := Lib.hid (Split_any m s w hG hm)
    have C2 := Lib.hid (fun W => RSplit_any s W)
    have hn := splitR_small s.data.toList
    rw [length_size] at hn
    generalize splitR s.data.toList = r at *
    obtain ⟨⟨⟨r1, r2⟩, r3⟩, r4⟩ := r
    dsimp only at C1 C2 hn
    have h1 : decide ((20100 : Int) < s.size) = false := by simp; omega
    have step : ∀ (h2 : decide ((3000 : Int) < s.size) = true → decide ((s.size : Int) ≤ 20000) = false), Calls Tryd.prog 6 #[.string s] w fun e w' => e = .returned (.bool true) ∧ Below w.heap.size w w' := by
      intro h2
      have hS := fun va vb B1 B2 W ha hb => Lib.hid (Same_true r1 va vb B1 B2 W ha hb (by omega))
      clear hn hsmall
      rcases Bool.eq_false_or_eq_true (decide ((3000 : Int) < s.size)) with h3 | h3
      all_goals (
        have h2' := h2
        rw [h3] at h2'
        simp only [forall_const, Bool.false_eq_true, false_implies] at h2'
        clear h2
        go_enter Tryd.func6, Tryd.ntmps6
        go_wp2_with fail
        refine C1.out.mono ?_
        rintro e w1 ⟨v1, rfl, t1, b1⟩
        obtain ⟨ad1, c1, rfl⟩ := t1.slice
        go_wp2_with fail
        refine (C2.out _).mono ?_
        rintro e w2 ⟨v2, rfl, t2, b2⟩
        obtain ⟨ad2, c2, rfl⟩ := t2.slice
        go_wp2_with fail
        refine (hS _ _ _ _ _ (t1.below b2) t2).out.mono ?_
        rintro e w3 ⟨rfl, b3⟩
        go_wp2_with fail
        refine (HA.out _).mono ?_
        rintro e w4 ⟨rfl, b4⟩
        go_wp2
        go_ret
        exact ⟨rfl, andThen (andThen (andThen b1 b2) b3) b4⟩)
    exact step (by intro h; simp at h ⊢; omega)
  · have step : ∀ (h1 : decide ((3000 : Int) < s.size) = true), Calls Tryd.prog 6 #[.string s] w fun e w' => e = .returned (.bool true) ∧ Below w.heap.size w w' := by
      intro h1
      by_cases h2 : s.size ≤ 20000
      · have h2' : decide ((s.size : Int) ≤ 20000) = true := by simp; omega
        clear hsmall h2
        go_enter Tryd.func6, Tryd.ntmps6
        go_wp2_with fail
        refine (HA.out _).mono ?_
        rintro e w4 ⟨rfl, b4⟩
        go_wp2
        go_ret
        exact ⟨rfl, b4⟩
      · have h2' : decide ((s.size : Int) ≤ 20000) = false := by simp; omega
        have h3' : decide ((20100 : Int) < s.size) = true := by simp; omega
        clear hsmall h2
        go_enter Tryd.func6, Tryd.ntmps6
        go_wp2_with fail
        refine (HA.out _).mono ?_
        rintro e w4 ⟨rfl, b4⟩
        go_wp2
        go_ret
        exact ⟨rfl, b4⟩
    exact step (by simp; omega)

theorem max_shaped (W : World) (h : W.ShapedOpen Tryd.prog) : ∃ m, MaxIs m W ∧ 1 < W.heap.size := by
  obtain ⟨m, hm⟩ := Go.Proofs.cell_of_shapedOpen_int (zero := #[.int .i64 0]) (t := 3) (g := 1) h (of_decide_eq_true (by kernel_rfl)) (by kernel_rfl) rfl (by kernel_rfl) (by kernel_rfl) Tryd.underlying3
  refine ⟨m, hm, ?_⟩
  rcases Nat.lt_or_ge 1 W.heap.size with h1 | h1
  · exact h1
  · unfold World.cell? at hm
    rw [Array.getElem?_eq_none h1] at hm; cases hm
theorem splitsLaw_shaped (s : ByteArray) (_hs : s.size ≤ 140737488351232) (W : World) (h : W.ShapedOpen Tryd.prog) :
    Calls Tryd.prog 6 #[.string s] W fun e w' => e = .returned (.bool true) ∧ Below W.heap.size W w' := by
  obtain ⟨m, hm, hG⟩ := max_shaped W h
  exact splitsLaw_any m s W hG hm
end Go.Proofs.YtcpahelmaejjeaaDoor
