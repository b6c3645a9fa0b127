/- Chapter 3: the walks of the statements' functions WordsTexts and WordsValues. -/
import Derived.Test.YtbcofimmfbmkoaaDoorWlawE
namespace Go.Proofs.YtbcofimmfbmkoaaDoor
open Go.RowKit Go.Shelf Words3

theorem Light.fit {rs : List Rw} (h : Light rs) : Fit rs := fun r hr => by
  obtain ⟨h1, h2⟩ := h.2 r hr
  exact ⟨by omega, fun x hx => by obtain ⟨h3, h4⟩ := h2 x hx; omega⟩
theorem Light.small {rs : List Rw} (h : Light rs) : rs.length ≤ 100000 ∧ ∀ r ∈ rs, r.words.length ≤ 100000 := ⟨by have := h.1; omega, fun r hr => by have := (h.2 r hr).1; omega⟩

set_option maxHeartbeats 10000000 in
set_option maxRecDepth 100000 in
theorem lawTexts_any (W : World) (v : Value) (rs : List Rw) (hv : RowsAt W v rs) (hn : rs.length ≤ 140737488355328) (hm : ∀ r ∈ rs, r.words.length ≤ 140737488355328) :
    Calls Tryd.prog 8 #[v] W fun e w' => e = .returned (.bool true) ∧ Below W.heap.size W w' := by
  have HA := Lib.hid (fun W => awake_any W)
  obtain ⟨ad, c, rfl, hc⟩ := hv.slice
  have HL := Lib.hid (light_any W _ rs hv hn hm)
  have HV := Lib.hid hv
  clear hv
  go_enter Tryd.func8, Tryd.ntmps8
  go_wp2_with fail
  refine HL.out.mono ?_
  rintro e w1 ⟨b, rfl, hl, b1⟩
  cases b with
  | false =>
    clear hl
    go_wp2_with fail
    refine (HA.out _).mono ?_
    rintro e w2 ⟨rfl, b2⟩
    have t2 := andThen b1 b2
    go_wp2_with fail
    go_ret
    exact ⟨rfl, t2⟩
  | true =>
    have hL := hl rfl
    obtain ⟨s1, s2⟩ := hL.small
    have hF := hL.fit
    have H1 := Lib.hid (And.intro (HV.out.below b1) b1)
    clear hl b1
    go_wp2_with fail
    refine (own_any _ _ rs H1.out.1 s1 s2).mono ?_
    rintro e w2 ⟨v2, rfl, r2, b2⟩
    obtain ⟨ad2, c2, rfl⟩ := r2.slice
    have H2 := Lib.hid (And.intro (H1.out.1.below b2) (And.intro r2.at_ (andThen H1.out.2 b2)))
    clear r2 b2 H1
    go_wp2_with fail
    refine (Text_any _ _ rs H2.out.2.1 hF s1).mono ?_
    rintro e w3 ⟨rfl, b3⟩
    have H3 := Lib.hid (And.intro (H2.out.1.below b3) (And.intro (H2.out.2.1.below b3) (andThen H2.out.2.2 b3)))
    clear b3 H2
    go_wp2_with fail
    refine (RText_any _ _ rs H3.out.1 hF s1).mono ?_
    rintro e w4 ⟨rfl, b4⟩
    have H4 := Lib.hid (And.intro (H3.out.1.below b4) (And.intro (H3.out.2.1.below b4) (andThen H3.out.2.2 b4)))
    clear b4 H3
    generalize textF rs = R at *
    go_wp2_with fail
    refine (same_true _ _ _ rs rs true H4.out.2.1 H4.out.1 (Agree.refl _ _) s1 s2).mono ?_
    rintro e w5 ⟨rfl, b5⟩
    have t5 := andThen H4.out.2.2 b5
    clear b5 H4
    go_wp2_with fail
    refine (HA.out _).mono ?_
    rintro e w6 ⟨rfl, b6⟩
    have t6 := andThen t5 b6
    go_wp2_with fail
    go_ret
    exact ⟨rfl, t6⟩

theorem add_zero (a : Addr) : a.add 0 = a := by unfold Addr.add; rw [if_pos rfl]
theorem RowsAt.first {w : World} {ad : Option Addr} {n c : Nat} {r : Rw} (h : RowsAt w (.slice ad n c) [r]) :
    ∃ a u, ad = some a ∧ w.cell? a = some (.int .i64 (r.at_ : Int)) ∧ w.cell? { block := a.block, off := a.off + 1 } = some u ∧ WordsAt w u r.words := by
  obtain ⟨vs, h1, h2, h3⟩ := h
  have h2' := h2
  obtain ⟨_, ad', c', hv, _, _⟩ := h2'
  cases hv
  obtain ⟨a, u, e1, e2, e3, e4⟩ := RowsAt.row ⟨vs, h1, h2, h3⟩ (k := 0) (r := r) rfl
  rw [Nat.zero_mul, add_zero] at e2 e3
  exact ⟨a, u, e1, e2, e3, e4⟩
theorem one_row {w : World} {b : Nat} {at_ : Int} {u : Value} {ws : List Wd} (h : w.heap[b]? = some (.cells #[.int .i64 at_, u] 39 (0, 0))) (hw : WordsAt w u ws) : RowsAt w (.slice (some ⟨b, 0, none⟩) 1 1) [⟨at_, ws⟩] :=
  rows_lit [u] [⟨at_, ws⟩] h rfl rfl (fun p hp => by
    simp only [List.zip_cons_cons, List.zip_nil_right, List.mem_singleton] at hp
    subst hp
    exact hw)

set_option maxHeartbeats 10000000 in
set_option maxRecDepth 100000 in
theorem lawValues_any (W : World) (at_ : Int) (v : Value) (ws : List Wd) (key : ByteArray) (hw : WordsAt W v ws) (hn : ws.length ≤ 140737488355328) :
    Calls Tryd.prog 5 #[.agg #[.int .i64 at_, v], .string key] W fun e w' => e = .returned (.bool true) ∧ Below W.heap.size W w' := by
  have HA := Lib.hid (fun W => awake_any W)
  obtain ⟨ad, c, rfl, hc⟩ := Row.slice hw
  obtain ⟨o, ho⟩ : ∃ o, o = Obj.cells #[.int .i64 at_, .slice ad ws.length c] 39 := ⟨_, rfl⟩
  obtain ⟨k1, k2, hsz, hbl⟩ := alloc2 W (.cells #[.int .i64 at_, .slice ad ws.length c] 39) (.cells #[.int .i64 at_, .slice ad ws.length c] 39)
  have HW0 := Lib.hid (And.intro k1 (And.intro (one_row k2 (WordsAt.below hw hbl)) hbl))
  have HW := Lib.hid hw
  have HL := Lib.hid (light_any _ _ [⟨at_, ws⟩] HW0.out.2.1 (by simp) (fun r hr => by rw [List.mem_singleton] at hr; rw [hr]; exact hn))
  clear k1 k2 hsz hbl hw ho o
  go_enter Tryd.func5, Tryd.ntmps5
  go_wp2_with fail
  refine HL.out.mono ?_
  rintro e w1 ⟨b, rfl, hl, b1⟩
  have H1 := Lib.hid (And.intro (heap_below HW0.out.1 b1) (andThen HW0.out.2.2 b1))
  clear HW0 HL b1
  cases b with
  | false =>
    clear hl
    go_wp2_with fail
    refine (HA.out _).mono ?_
    rintro e w2 ⟨rfl, b2⟩
    have t2 := andThen H1.out.2 b2
    go_wp2_with fail
    go_ret
    exact ⟨rfl, t2⟩
  | true =>
    have hL := hl rfl
    obtain ⟨s1, s2⟩ := hL.small
    have hws := s2 _ (List.mem_singleton.2 rfl)
    dsimp only at hws
    clear hl
    have x0 := cell2_0 H1.out.1
    have x1 := cell2_1 H1.out.1
    by_cases c1 : 40 < ws.length
    · have d1 := lt_t (a := 40) (b := (ws.length : Int)) (by omega)
      go_wp2_with fail
      refine (HA.out _).mono ?_
      rintro e w2 ⟨rfl, b2⟩
      have t2 := andThen H1.out.2 b2
      go_wp2_with fail
      go_ret
      exact ⟨rfl, t2⟩
    · have d1 := lt_f (a := 40) (b := (ws.length : Int)) (by omega)
      by_cases c2 : 100 < key.size
      · have d2 := lt_t (a := 100) (b := (key.size : Int)) (by omega)
        go_wp2_with fail
        refine (HA.out _).mono ?_
        rintro e w2 ⟨rfl, b2⟩
        have t2 := andThen H1.out.2 b2
        go_wp2_with fail
        go_ret
        exact ⟨rfl, t2⟩
      · have d2 := lt_f (a := 100) (b := (key.size : Int)) (by omega)
        have q2 := World.alloc_heap_new w1 (.cells #[.int .i64 at_, .slice ad ws.length c] 39)
        have a2 := Go.Joins.below_alloc1 w1 (.cells #[.int .i64 at_, .slice ad ws.length c] 39)
        have H2 := Lib.hid (And.intro (heap_below H1.out.1 a2) (And.intro (one_row q2 (WordsAt.below HW.out (andThen H1.out.2 a2))) (andThen H1.out.2 a2)))
        clear q2 a2
        go_wp2_with fail
        refine (own_any _ _ [⟨at_, ws⟩] H2.out.2.1 s1 s2).mono ?_
        rintro e w3 ⟨v3, rfl, r3, b3⟩
        obtain ⟨ad3, c3, rfl⟩ := r3.slice
        have H3 := Lib.hid (And.intro (heap_below H2.out.1 b3) (And.intro r3.at_ (andThen H2.out.2.2 b3)))
        clear r3 b3 H2 H1 x0 x1
        obtain ⟨a3, u3, rfl, y0, y1, hw3⟩ := H3.out.2.1.first
        obtain ⟨ad4, c4, rfl, _⟩ := Row.slice hw3
        have HW3 := Lib.hid hw3
        clear hw3
        dsimp only [List.length_cons, List.length_nil] at *
        go_wp2_with fail
        refine (Value_any _ _ at_ ws HW3.out (by omega) key (by omega)).mono ?_
        rintro e w4 ⟨rfl, b4⟩
        have H4 := Lib.hid (And.intro (heap_below H3.out.1 b4) (And.intro (H3.out.2.1.below b4) (andThen H3.out.2.2 b4)))
        clear b4 H3 HW3 y0 y1
        have x0 := cell2_0 H4.out.1
        have x1 := cell2_1 H4.out.1
        go_wp2_with fail
        refine (RValue_any _ _ at_ ws (WordsAt.below HW.out H4.out.2.2) (by omega) key (by omega)).mono ?_
        rintro e w5 ⟨rfl, b5⟩
        have H5 := Lib.hid (And.intro (heap_below H4.out.1 b5) (And.intro (H4.out.2.1.below b5) (andThen H4.out.2.2 b5)))
        clear b5 H4 x0 x1
        have x0 := cell2_0 H5.out.1
        have x1 := cell2_1 H5.out.1
        generalize valueF ws key.data.toList = R at *
        have q6 := World.alloc_heap_new w5 (.cells #[.int .i64 at_, .slice ad ws.length c] 39)
        have a6 := Go.Joins.below_alloc1 w5 (.cells #[.int .i64 at_, .slice ad ws.length c] 39)
        have H6 := Lib.hid (And.intro (H5.out.2.1.below a6) (And.intro (one_row q6 (WordsAt.below HW.out (andThen H5.out.2.2 a6))) (andThen H5.out.2.2 a6)))
        clear q6 a6
        go_wp2_with fail
        refine (same_true _ _ _ [⟨at_, ws⟩] [⟨at_, ws⟩] true H6.out.1 H6.out.2.1 (Agree.refl _ _) s1 s2).mono ?_
        rintro e w7 ⟨rfl, b7⟩
        have t7 := andThen H6.out.2.2 b7
        clear b7 H6 H5 x0 x1
        go_wp2_with fail
        refine (HA.out _).mono ?_
        rintro e w8 ⟨rfl, b8⟩
        have t8 := andThen t7 b8
        go_wp2_with fail
        go_ret
        exact ⟨rfl, t8⟩
end Go.Proofs.YtbcofimmfbmkoaaDoor
