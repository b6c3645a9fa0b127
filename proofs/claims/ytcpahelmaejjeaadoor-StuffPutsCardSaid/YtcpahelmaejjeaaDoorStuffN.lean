/- The walk of the statement StuffPuts. -/
import Derived.Test.YtcpahelmaejjeaaDoorStuffH
namespace Go.Proofs.YtcpahelmaejjeaaDoor
open Go.RowKit Go.Shelf Stuff10

set_option maxHeartbeats 4000000 in
set_option maxRecDepth 100000 in
theorem putsLaw_any (s : ByteArray) (hs : s.size ≤ 140737488351232) (w : World) :
    Calls Tryd.prog 5 #[.string s] w fun e w' => e = .returned (.bool true) ∧ Below w.heap.size w w' := by
  have HA := Lib.hid (fun W => awake_any W)
  have C1 := Lib.hid (fun W => Put_any s W)
  have C2 := Lib.hid (fun W => RPut_any s W)
  have C3 := Lib.hid (fun W => Size_any s W)
  have C4 := Lib.hid (fun W => RSize_any s W)
  have C5 := Lib.hid (fun W => Frame_any s W)
  have C6 := Lib.hid (fun W => RFrame_any s W)
  have C7 := Lib.hid (fun W => Get_any s hs W)
  have C8 := Lib.hid (fun W => RGet_any s hs W)
  obtain ⟨F, hF⟩ : ∃ F, F = (if 20000 < s.size then [] else put s.data.toList ++ [0]) := ⟨_, rfl⟩
  obtain ⟨fe, hfe⟩ : ∃ fe : Int, fe = (if 20000 < s.size then 4 else 0) := ⟨_, rfl⟩
  rw [← hF, ← hfe] at C5 C6
  clear hF hfe
  unfold getV at C7 C8
  generalize putS s.data.toList = p at *
  obtain ⟨p1, p2⟩ := p
  generalize getS s.data.toList = g at *
  obtain ⟨g1, g2, g3⟩ := g
  dsimp only at C1 C2 C3 C4 C7 C8
  by_cases hsmall : s.size ≤ 2000
  · have h1 : decide ((2000 : Int) < s.size) = false := by simp; omega
    have h2 : decide ((20100 : Int) < s.size) = false := by simp; omega
    go_enter Tryd.func5, Tryd.ntmps5
    go_wp2_with fail
    refine (C1.out _).mono ?_
    rintro e w1 ⟨rfl, hb1⟩
    go_wp2_with fail
    refine (C2.out _).mono ?_
    rintro e w2 ⟨rfl, hb2⟩
    go_wp2_with fail
    refine (C3.out _).mono ?_
    rintro e w3 ⟨rfl, hb3⟩
    go_wp2_with fail
    refine (C4.out _).mono ?_
    rintro e w4 ⟨rfl, hb4⟩
    go_wp2_with fail
    refine (C5.out _).mono ?_
    rintro e w5 ⟨rfl, hb5⟩
    go_wp2_with fail
    refine (C6.out _).mono ?_
    rintro e w6 ⟨rfl, hb6⟩
    have b6 := andThen (andThen (andThen (andThen (andThen hb1 hb2) hb3) hb4) hb5) hb6
    go_wp2_with fail
    refine (C7.out _).mono ?_
    rintro e w7 ⟨rfl, hb7⟩
    go_wp2_with fail
    refine (C8.out _).mono ?_
    rintro e w8 ⟨rfl, hb8⟩
    have hr : ResAt w8 w7.heap.size g2 g3 := (hb8.block _ (by simp)).trans (World.alloc_heap_new w7 _)
    have r0 := hr.c0; have r1 := hr.c1; have f0 := hr.f 0; have f1 := hr.f 1
    have hlt7 : w7.heap.size < w8.heap.size := (Array.getElem?_eq_some_iff.1 hr).1
    have b7 := andThen b6 hb7
    have b8 := andThen (b7.alloc b7.size _) hb8
    go_wp2_with fail
    refine (HA.out _).mono ?_
    rintro e w9 ⟨rfl, hb9⟩
    go_wp2
    go_ret
    exact ⟨rfl, andThen (b8.alloc b8.size _) hb9⟩
  · have h1 : decide ((2000 : Int) < s.size) = true := by simp; omega
    by_cases hbig : 20000 < s.size ∧ s.size ≤ 20100
    · obtain ⟨hA, hB⟩ := hbig
      have h2 : decide ((20100 : Int) < s.size) = false := by simp; omega
      have h3 : decide ((s.size : Int) ≤ 20000) = false := by simp; omega
      go_enter Tryd.func5, Tryd.ntmps5
      go_wp2_with fail
      refine (C1.out _).mono ?_
      rintro e w1 ⟨rfl, hb1⟩
      go_wp2_with fail
      refine (C2.out _).mono ?_
      rintro e w2 ⟨rfl, hb2⟩
      go_wp2_with fail
      refine (C3.out _).mono ?_
      rintro e w3 ⟨rfl, hb3⟩
      go_wp2_with fail
      refine (C4.out _).mono ?_
      rintro e w4 ⟨rfl, hb4⟩
      go_wp2_with fail
      refine (C5.out _).mono ?_
      rintro e w5 ⟨rfl, hb5⟩
      go_wp2_with fail
      refine (C6.out _).mono ?_
      rintro e w6 ⟨rfl, hb6⟩
      have b6 := andThen (andThen (andThen (andThen (andThen hb1 hb2) hb3) hb4) hb5) hb6
      go_wp2_with fail
      refine (HA.out _).mono ?_
      rintro e w9 ⟨rfl, hb9⟩
      go_wp2
      go_ret
      exact ⟨rfl, andThen b6 hb9⟩
    · rcases Nat.lt_or_ge 20000 s.size with hA | hA
      · have h2 : decide ((20100 : Int) < s.size) = true := by simp; omega
        have h3 : decide ((s.size : Int) ≤ 20000) = false := by simp; omega
        go_enter Tryd.func5, Tryd.ntmps5
        go_wp2_with fail
        refine (HA.out _).mono ?_
        rintro e w9 ⟨rfl, hb9⟩
        go_wp2
        go_ret
        exact ⟨rfl, hb9⟩
      · have h3 : decide ((s.size : Int) ≤ 20000) = true := by simp; omega
        go_enter Tryd.func5, Tryd.ntmps5
        go_wp2_with fail
        refine (HA.out _).mono ?_
        rintro e w9 ⟨rfl, hb9⟩
        go_wp2
        go_ret
        exact ⟨rfl, hb9⟩
end Go.Proofs.YtcpahelmaejjeaaDoor
