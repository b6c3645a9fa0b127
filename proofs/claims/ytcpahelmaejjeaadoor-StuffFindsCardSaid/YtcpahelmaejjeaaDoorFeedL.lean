/- The walk of the statement StuffFeeds, chapter 10. -/
import Derived.Test.YtcpahelmaejjeaaDoorFeedD
import Derived.Test.YtcpahelmaejjeaaDoorKitT
import Derived.Test.YtcpahelmaejjeaaDoorStuffS
import Derived.Test.YtcpahelmaejjeaaDoorKitA
import Derived.Deep.RegionHeld3
namespace Go.Proofs.YtcpahelmaejjeaaDoor
open Go.RowKit Go.Shelf Stuff10

def lens (r : ((List (List UInt8) × Nat) × St) × Nat) : Prop := r.1.1.1.length < 4398046511104
theorem feedF_lens (h : List UInt8) (o : Bool) (s : List UInt8) (hh : h.length ≤ 1400) : lens (feedF (h, o) s) := by
  unfold lens feedF
  split
  · simp [bad0]
  · split
    · simp [bad0]
    · show (splitS (heldF (List.replicate 1301 1) (h, o) ++ s)).1.1.length < _
      obtain ⟨pre, p, h1, h2, h3⟩ := segs_end ((heldF (List.replicate 1301 1) (h, o) ++ s).length + 1) (heldF (List.replicate 1301 1) (h, o) ++ s) ([], 0) (by omega)
      have h4 := after_count pre ([], 0)
      have h5 := (segs_le ((heldF (List.replicate 1301 1) (h, o) ++ s).length + 1) (heldF (List.replicate 1301 1) (h, o) ++ s)).1
      rw [h1] at h5
      have h6 : (heldF (List.replicate 1301 (1 : UInt8)) (h, o)).length ≤ 1400 := by
        unfold heldF
        split
        · rw [List.length_replicate]; omega
        · exact hh
      simp only [List.length_append, List.length_cons, List.length_nil] at h4 h5
      unfold splitS
      rw [h3]
      dsimp only; omega

set_option maxHeartbeats 4000000 in
set_option maxRecDepth 100000 in
theorem feedsLaw_any (m : Int) (h : List UInt8) (o : Bool) (s : List UInt8) (w : World) (hG : 1 < w.heap.size) (hm : MaxIs m w) :
    Calls Tryd.prog 8 #[.agg #[.string ⟨h.toArray⟩, .bool o], .string ⟨s.toArray⟩] w fun e w' => e = .returned (.bool true) ∧ Below w.heap.size w w' := by
  have HA := Lib.hid (fun W => awake_any W)
  have b0 := Go.Joins.below_alloc1 w (.cells #[.string ⟨h.toArray⟩, .bool o] 42)
  have k0 := World.alloc_heap_new w (.cells #[.string ⟨h.toArray⟩, .bool o] 42)
  have fin : (decide ((1400 : Int) < h.length) = true ∨ decide ((1400 : Int) < h.length) = false ∧ decide ((2000 : Int) < s.length) = true ∧ decide ((s.length : Int) ≤ 20000) = true ∨ decide ((1400 : Int) < h.length) = false ∧ decide ((2000 : Int) < s.length) = true ∧ decide ((s.length : Int) ≤ 20000) = false ∧ decide ((20100 : Int) < s.length) = true) ∨
      h.length ≤ 1400 ∧ (decide ((1400 : Int) < h.length) = false ∧ decide ((2000 : Int) < s.length) = false ∧ decide ((20100 : Int) < s.length) = false ∨ decide ((1400 : Int) < h.length) = false ∧ decide ((2000 : Int) < s.length) = true ∧ decide ((s.length : Int) ≤ 20000) = false ∧ decide ((20100 : Int) < s.length) = false) := by
    simp only [decide_eq_true_eq, decide_eq_false_iff_not]; omega
  rcases fin with f | ⟨hh, f⟩
  · rcases f with f1 | ⟨f1, f2, f3⟩ | ⟨f1, f2, f3, f4⟩
    all_goals
      go_enter Tryd.func8, Tryd.ntmps8
      go_wp2_with fail
      refine (HA.out _).mono ?_
      rintro e w1 ⟨rfl, b1⟩
      go_wp2
      go_ret
      exact ⟨rfl, b0.trans (b1.mono b0.size)⟩
  · have C1 := Lib.hid (Feed_any m h o s (w.alloc (.cells #[.string ⟨h.toArray⟩, .bool o] 42)) (Nat.lt_of_lt_of_le hG b0.size) (cell_below b0 hm))
    have C2 := Lib.hid (fun W => RFeed_any h o s W)
    have hl := feedF_lens h o s hh
    have hCk : checkF (h, o) = checkF (h, o) := rfl
    have HK := Lib.hid (fun W => CheckS_any h o W)
    have HKR := Lib.hid (fun W => RCheckS_any h o W)
    generalize checkF (h, o) = c at HK HKR
    generalize feedF (h, o) s = r at C1 C2 hl
    obtain ⟨⟨⟨r1, r2⟩, ⟨r3, r4⟩⟩, r5⟩ := r
    unfold lens at hl
    unfold FeedPost at C1 C2
    dsimp only at C1 C2 hl
    have HS := Lib.hid (fun v1 v2 W x1 x2 => SameTexts_same r1 v1 v2 W x1 x2 hl)
    have HSt := Lib.hid (fun W => state_any r3 r4 W)
    clear hl hCk hh hm hG
    rcases f with ⟨f1, f2, f4⟩ | ⟨f1, f2, f3, f4⟩
    all_goals
      go_enter Tryd.func8, Tryd.ntmps8
      go_wp2_with fail
      refine C1.out.mono ?_
      rintro e w1 ⟨v1, rfl, x1, b1⟩
      obtain ⟨ad1, cp1, rfl⟩ := x1.slice
      have a1 := Go.Joins.below_alloc1 w1 (.cells #[.string ⟨r3.toArray⟩, .bool r4] 42)
      have k1 := World.alloc_heap_new w1 (.cells #[.string ⟨r3.toArray⟩, .bool r4] 42)
      have q1 := b1.trans (a1.mono b1.size)
      have t1 := b0.trans (q1.mono b0.size)
      have k01 := heap_below k0 q1
      have y1 := (Row.of_own x1).below a1
      have c0 := cell2_0 k01
      have c1 := cell2_1 k01
      clear k0 b0 a1 b1 q1 x1
      go_wp2_with fail
      refine (C2.out _).mono ?_
      rintro e w2 ⟨v2, rfl, x2, b2⟩
      obtain ⟨ad2, cp2, rfl⟩ := x2.slice
      have a2 := Go.Joins.below_alloc1 w2 (.cells #[.string ⟨r3.toArray⟩, .bool r4] 42)
      have k2 := World.alloc_heap_new w2 (.cells #[.string ⟨r3.toArray⟩, .bool r4] 42)
      have q2 := b2.trans (a2.mono b2.size)
      have t2 := t1.trans (q2.mono t1.size)
      have k02 := heap_below k01 q2
      have k12 := heap_below k1 q2
      have y12 := y1.below q2
      have y2 := (Row.of_own x2).below a2
      clear k01 k1 a2 b2 q2 x2 y1 t1 c0 c1
      go_upto_region 5 with (fail)
      generalize (w2.alloc (.cells #[.string ⟨r3.toArray⟩, .bool r4] 42)) = W at *
      have d0 := cell2_0 k02
      have d1 := cell2_1 k02
      have d2 := cell2_0 k12
      have d3 := cell2_1 k12
      have d4 := cell2_0 k2
      have d5 := cell2_1 k2
      have B := Lib.hid (Below.refl W.heap.size W).drew
      have hT := Lib.hid t2
      clear k02 k12 k2 t2
      go_region_held3 (fun V => V.cell? ⟨w.heap.size, 0, none⟩ = some (.string ⟨h.toArray⟩) ∧ V.cell? ⟨w.heap.size, 1, none⟩ = some (.bool o) ∧ V.cell? ⟨w1.heap.size, 0, none⟩ = some (.string ⟨r3.toArray⟩) ∧ V.cell? ⟨w1.heap.size, 1, none⟩ = some (.bool r4) ∧ V.cell? ⟨w2.heap.size, 0, none⟩ = some (.string ⟨r3.toArray⟩) ∧ V.cell? ⟨w2.heap.size, 1, none⟩ = some (.bool r4))
        (exact ⟨cell_below B.out d0, cell_below B.out d1, cell_below B.out d2, cell_below B.out d3, cell_below B.out d4, cell_below B.out d5⟩)
        (first
          | (go_at_call 26; refine (HK.out _).mono ?_; rintro e w3 ⟨rfl, b3⟩; have B := Lib.hid (B.out.trans (b3.mono B.out.size)))
          | (go_at_call 27; refine (HKR.out _).mono ?_; rintro e w3 ⟨rfl, b3⟩; have B := Lib.hid (B.out.trans (b3.mono B.out.size)))
          | (go_at_call 22; refine (HS.out _ _ _ (y12.below B.out) (y2.below B.out)).mono ?_; rintro e w3 ⟨rfl, b3⟩; have B := Lib.hid (B.out.trans (b3.mono B.out.size)))
          | (go_at_call 28; refine (HSt.out _).mono ?_; rintro e w3 ⟨rfl, b3⟩; have B := Lib.hid (B.out.trans (b3.mono B.out.size)))
          | (go_at_call 11; refine (HA.out _).mono ?_; rintro e w3 ⟨rfl, b3⟩; have B := Lib.hid (B.out.trans (b3.mono B.out.size))))
      all_goals go_wp2
      all_goals go_ret
      all_goals exact ⟨rfl, hT.out.trans (B.out.mono hT.out.size)⟩
theorem feedsLaw_shaped (h : List UInt8) (o : Bool) (s : List UInt8) (_ : s.length ≤ 140737488351232) (W : World) (hsh : W.ShapedOpen Tryd.prog) :
    Calls Tryd.prog 8 #[.agg #[.string ⟨h.toArray⟩, .bool o], .string ⟨s.toArray⟩] W fun e w' => e = .returned (.bool true) ∧ Below W.heap.size W w' := by
  obtain ⟨m, hm, hG⟩ := max_shaped W hsh
  exact feedsLaw_any m h o s W hG hm

section
open Go.ChangeShapes Go.WideShapes Go.Deep
variable {H : Type} {enc : TypeId × Value → H}
set_option maxRecDepth 100000 in
theorem open_stream {w : World} {base : Nat} {spare : Nat → Bool} {held : Bool} {r : Reach} {b0 : Nat} {v : Value} {d : DataW H} {p : List MemPlace} (hv : Value.okWide Tryd.prog w r b0 42 v)
    (h : DataW.Trod enc Tryd.prog w base spare held 42 v d p) : ∃ (e : List UInt8) (o : Bool), v = .agg #[.string ⟨e.toArray⟩, .bool o] := by
  obtain ⟨v0, v1, y0, y1, n, rfl, _, _, h0, h1⟩ := Go.Joins.open_agg2 Tryd.underlying42 (by kernel_rfl) (by kernel_rfl) hv h
  obtain ⟨s, hs, _, _⟩ := DataW.trod_string Tryd.underlying9 h0
  obtain ⟨b, hb, _⟩ := DataW.trod_bool Tryd.underlying4 h1
  have e1 := (List.cons.inj hs).1
  have e2 := (List.cons.inj hb).1
  subst e1
  subst e2
  exact ⟨s.data.toList, b, rfl⟩
end
end Go.Proofs.YtcpahelmaejjeaaDoor
