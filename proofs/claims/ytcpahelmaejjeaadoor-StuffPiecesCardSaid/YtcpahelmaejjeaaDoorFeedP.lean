/- The walk of the statement StuffPieces, chapter 10. -/
import Derived.Test.YtcpahelmaejjeaaDoorFeedL
import Derived.Test.YtcpahelmaejjeaaDoorKitU
import Derived.Test.YtcpahelmaejjeaaDoorKitM
import Derived.Deep.DeepCutAuto
import Derived.Deep.RegionHeld3
namespace Go.Proofs.YtcpahelmaejjeaaDoor
open Go.RowKit Go.Shelf Stuff10

theorem feedF_start {s : List UInt8} (h : s.length ≤ 3000) : feedF ([], false) s = (((splitS s).1, nextF (splitS s).2), 0) := by
  unfold feedF
  rw [if_neg (by decide), if_neg (by omega)]; rfl
theorem feedF_next (l t : List UInt8) (h : t.length ≤ 3000) : feedF (nextF (splitS l).2) t = (feedS (List.replicate 1301 1) (nextF (splitS l).2) t, 0) := by
  unfold feedF
  have hr := (splitG_rest _ l (Nat.le_refl _) ([], 0)).1
  rw [← splitS_G l] at hr
  rw [nextF_state _ hr, if_neg (by simp), if_neg (by omega)]
theorem sub_mid (y : List UInt8) (i j : Nat) (h1 : i ≤ j) (h2 : j ≤ y.length) (W : World) : (Instr.slice 9 (.string ⟨y.toArray⟩) (some (.int .i64 (i : Int))) (some (.int .i64 (j : Int))) none).run Tryd.prog W = .ok (.string ⟨((y.drop i).take (j - i)).toArray⟩) W := by
  have hs : (⟨y.toArray⟩ : ByteArray).size = y.length := rfl
  rw [run_slice_string W _ _ _ _ _ _ Tryd.underlying9 (by omega) (by omega) (by rw [hs]; omega), ByteArray.extract_mk, Int.toNat_natCast, Int.toNat_natCast]
theorem txt_same {w w' : World} {B : Nat} {v : Value} {l : List (List UInt8)} (h : Txt w B v l) (hs : ∀ g, v.ownBlock = some g → w'.heap[g]? = w.heap[g]?) : Txt w' B v l := by
  refine ⟨h.1, ?_⟩
  rcases h.2 with h1 | ⟨g, cap, cur, hv, hg, hh, r⟩
  · exact Or.inl h1
  · exact Or.inr ⟨g, cap, cur, hv, hg, by rw [hs g (by rw [hv]; rfl)]; exact hh, r⟩
theorem lens_small (l : List UInt8) : (splitS l).1.1.length + (splitS l).1.2 ≤ l.length + 1 := by
  obtain ⟨pre, p, h1, h2, h3⟩ := segs_end (l.length + 1) l ([], 0) (by omega)
  have h4 := after_count pre ([], 0)
  have h5 := (segs_le (l.length + 1) l).1
  rw [h1] at h5
  simp only [List.length_append, List.length_cons, List.length_nil] at h4 h5
  unfold splitS
  rw [h3]
  dsimp only; omega
theorem take_more (s : List UInt8) (fr tt : Nat) (h : fr ≤ tt) : s.take tt = s.take fr ++ (s.drop fr).take (tt - fr) := by
  rw [show tt = fr + (tt - fr) by omega, List.take_add]; congr 2; omega
theorem cell_far2 {w : World} {a : Addr} {x u u' : Value} {g j j' : Nat} (h : w.cell? a = some x) (hne : a.block ≠ g) : ((w.setCell ⟨g, j, none⟩ u).setCell ⟨g, j', none⟩ u').cell? a = some x := by
  have hl := cell_lt h
  have e1 := (grown_cell w g j u).block a.block hl (fun e => hne (by cases e; rfl))
  have e2 := (grown_cell (w.setCell ⟨g, j, none⟩ u) g j' u').block a.block (Nat.lt_of_lt_of_le hl (grown_cell w g j u).size) (fun e => hne (by cases e; rfl))
  unfold World.cell? at h ⊢
  rw [e2, e1]; exact h
theorem own_ne {W : World} {B g T : Nat} {cs : Array Value} {v : Value} {l : List (List UInt8)} (h : Txt W B v l) (hg : W.heap[g]? = some (.cells cs T (0, 0))) (hT : T ≠ 9) : v.ownBlock ≠ some g := by
  rcases h.2 with ⟨rfl, _⟩ | ⟨g', cap, cur, rfl, _, hh, _⟩
  · simp [Value.ownBlock]
  · intro e
    simp only [Value.ownBlock, Option.some.injEq] at e
    subst e
    rw [hg] at hh
    simp only [Option.some.injEq, Obj.cells.injEq] at hh
    exact hT hh.2.1
/-- What stands between two pieces. -/
structure PieceI (w W0 : World) (g11 : Nat) (s : List UInt8) (fr : Nat) (v : Value) (W : World) : Prop where
  below : Below w.heap.size w W
  kept : ∀ k, k < W0.heap.size → k ≠ g11 → W.heap[k]? = W0.heap[k]?
  box : W.heap[g11]? = some (.cells #[.string ⟨(nextF (splitS (s.take fr)).2).1.toArray⟩, .bool (nextF (splitS (s.take fr)).2).2] 42 (0, 0))
  txt : Txt W W0.heap.size v (splitS (s.take fr)).1.1
  size : W0.heap.size ≤ W.heap.size

set_option maxHeartbeats 8000000 in
set_option maxRecDepth 100000 in
theorem pieces_any' (m : Int) (s : List UInt8) (l : List Int) (v : Value) (w : World) (hG : 1 < w.heap.size) (hm : MaxIs m w) (hl : l.length ≤ maxLen) (hwf : ∀ n ∈ l, (Lit.int .i64 n).wf = true) (hrow : Row w 1 v l.length (l.map fun n => .int .i64 n)) :
    Calls Tryd.prog 9 #[.string ⟨s.toArray⟩, v] w fun e w' => e = .returned (.bool true) ∧ Below w.heap.size w w' := by
  have hlm := hl
  unfold maxLen at hlm
  have HA := Lib.hid (fun W => awake_any W)
  have hR := Lib.hid hrow
  have hWf := Lib.hid hwf
  obtain ⟨na, nc, rfl, _⟩ := hrow.slice
  clear hrow hwf hl
  by_cases h3 : 3000 < s.length
  · have h3' : decide ((3000 : Int) < s.length) = true := by simp; omega
    go_enter Tryd.func9, Tryd.ntmps9
    go_wp2_with fail
    refine (HA.out _).mono ?_
    rintro e w1 ⟨rfl, b1⟩
    go_wp2
    go_ret
    exact ⟨rfl, b1⟩
  · have h3' : decide ((3000 : Int) < s.length) = false := by simp; omega
    have C1 := (Feed_any m [] false s w hG hm).mono (fun e w' h => by
      rw [feedF_start (by omega)] at h
      obtain ⟨v, he, h2, h3⟩ := h
      exact (⟨v, he, h2, h3⟩ : ∃ v, e = .returned (.tuple #[v, .int .i64 ((splitS s).1.2 : Int), .agg #[.string ⟨(nextF (splitS s).2).1.toArray⟩, .bool (nextF (splitS s).2).2], .int .i64 0]) ∧ Txt w' w.heap.size v (splitS s).1.1 ∧ Below w.heap.size w w'))
    have C1 := Lib.hid C1
    have hsm := lens_small s
    go_enter Tryd.func9, Tryd.ntmps9
    go_wp2_with fail
    refine C1.out.mono ?_
    rintro e w1 ⟨v1, rfl, x1, b1⟩
    obtain ⟨ad1, cp1, rfl⟩ := x1.slice
    obtain ⟨X1, hX1⟩ : ∃ X, X = (nextF (splitS s).2) := ⟨_, rfl⟩
    rw [← hX1]
    obtain ⟨k1, k2, hz2, hal⟩ := alloc2 w1 (.cells #[.string ⟨X1.1.toArray⟩, .bool X1.2] 42) (.cells #[.string ⟨#[]⟩, .bool false] 42)
    have t1 := b1.trans (hal.mono b1.size)
    have hb1 := b1
    have x1' := x1.below hal
    obtain ⟨F1, hF1⟩ : ∃ F, F = (splitS s).1.1 := ⟨_, rfl⟩
    obtain ⟨G1, hG1⟩ : ∃ G, G = (splitS s).1.2 := ⟨_, rfl⟩
    rw [← hF1] at x1' hsm
    rw [← hG1] at hsm
    simp only [← hF1, ← hG1]
    have hH := Lib.hid (And.intro hX1 (And.intro hF1 hG1))
    clear hX1 hF1 hG1 x1 b1 C1
    go_upto_region 8 with (fail)
    generalize ((w1.alloc (.cells #[.string ⟨X1.1.toArray⟩, .bool X1.2] 42)).alloc (.cells #[.string ⟨#[]⟩, .bool false] 42)) = W0 at *
    obtain ⟨g7, hg7⟩ : ∃ g, g = w1.heap.size := ⟨_, rfl⟩
    rw [← hg7] at k1 k2 hz2 ⊢
    clear hal
    have hw7 : w.heap.size ≤ g7 ∧ g7 + 2 ≤ W0.heap.size := ⟨by rw [hg7]; exact hb1.size, by omega⟩
    clear hg7
    go_wp2
    go_loopw [9, 10, 12, 13] (fun a b c i wr => ∃ (k fr : Nat), i = .int .i64 k ∧ c = .int .i64 fr ∧ b = .int .i64 ((splitS (s.take fr)).1.2 : Int) ∧ fr ≤ s.length ∧ k ≤ l.length + 1 ∧ k ≤ 11 ∧ (k = l.length + 1 ∨ k = 11 → fr = s.length) ∧ PieceI w W0 (g7 + 1) s fr a wr) (fun _ _ _ i _ => 11 - (intOf i).toNat)
    case atStart => exact ⟨0, 0, rfl, rfl, rfl, Nat.zero_le _, by omega, by omega, fun h => by omega, ⟨t1, fun _ _ _ => rfl, k2, Txt.nil _ _, Nat.le_refl _⟩⟩
    case round =>
      obtain ⟨k, fr, rfl, rfl, rfl, hfr, hkl, hk11, hend, hI⟩ := hrel
      obtain ⟨Wr, rfl⟩ : ∃ W, W = wr := ⟨wr, rfl⟩
      have hlen := lens_small (s.take fr)
      rw [List.length_take] at hlen
      by_cases hgo : k ≤ l.length ∧ k ≤ 10
      · obtain ⟨hg1, hg2⟩ := hgo
        have hg1' : decide ((k : Int) ≤ l.length) = true := by simp; omega
        have hg1n : decide (k ≤ l.length) = true := decide_eq_true hg1
        have hg2' : decide ((k : Int) ≤ 10) = true := by simp; omega
        by_cases c1 : k < l.length
        · by_cases c2 : k < 10
          · have qv : (l.map fun n => Value.int .i64 n)[k]? = some (.int .i64 l[k]) := by rw [List.getElem?_map, List.getElem?_eq_getElem c1]; rfl
            obtain ⟨ca, rfl, hca⟩ := (hR.out.below hI.below).cell qv
            have hX : I64 l[k] := I64_of (hWf.out _ (List.getElem_mem c1))
            clear qv
            generalize l[k] = x at hca hX
            have c1' : decide ((k : Int) < l.length) = true := by simp; omega
            have c1n : decide (k < l.length) = true := decide_eq_true c1
            have c2' : decide ((k : Int) < 10) = true := by simp; omega
            go_wp2_with fail
            refine (Mod_some x ((s.length : Int) - (fr : Int) + 1) _ hX (by omega) (by omega)).mono ?_
            rintro e w9 ⟨mm, hmm, rfl, rfl⟩
            obtain ⟨tt, htt⟩ : ∃ tt : Nat, (fr : Int) + (mm : Int) = (tt : Int) := ⟨fr + mm, by omega⟩
            have htf : fr ≤ tt := by omega
            have hts : tt ≤ s.length := by omega
            have hte : k + 1 = l.length + 1 ∨ k + 1 = 11 → tt = s.length := fun h => by omega
            go_upto_region 14 with (fail)
            clear htt
            have htk := take_more s fr tt (by omega)
            obtain ⟨tx, htx⟩ : ∃ tx, tx = (s.drop fr).take (tt - fr) := ⟨_, rfl⟩
            have hsub := sub_mid s fr tt (by omega) (by omega)
            have htl : tx.length ≤ 3000 := by rw [htx, List.length_take, List.length_drop]; omega
            rw [← htx] at hsub htk
            obtain ⟨fn1, fn2⟩ := feed_next (s.take fr) tx
            rw [← htk] at fn1 fn2
            have HF := Lib.hid (fun W hG hm => by
              have h := Feed_any m (nextF (splitS (s.take fr)).2).1 (nextF (splitS (s.take fr)).2).2 tx W hG hm
              rw [show ((nextF (splitS (s.take fr)).2).1, (nextF (splitS (s.take fr)).2).2) = nextF (splitS (s.take fr)).2 from rfl, feedF_next (s.take fr) tx htl] at h
              unfold FeedPost at h
              exact h)
            have hbx := hI.box
            have htI := hI.txt
            obtain ⟨R0, hR0⟩ : ∃ R0, R0 = splitS (s.take fr) := ⟨_, rfl⟩
            rw [← hR0] at HF hbx htI fn1 fn2 hlen ⊢
            obtain ⟨r, hr⟩ : ∃ r, r = feedS (List.replicate 1301 1) (nextF R0.2) tx := ⟨_, rfl⟩
            rw [← hr] at HF fn1 fn2
            obtain ⟨y, hy⟩ : ∃ y, y = nextF R0.2 := ⟨_, rfl⟩
            rw [← hy] at HF hbx
            obtain ⟨⟨P1, P2⟩, P3⟩ := R0
            obtain ⟨⟨Q1, Q2⟩, ⟨Q3, Q4⟩⟩ := r
            obtain ⟨y1, y2⟩ := y
            dsimp only at HF hbx htI fn1 fn2 hlen ⊢
            have hsum := lens_small (s.take tt)
            rw [fn1] at hsum
            rw [List.length_take] at hsum
            dsimp only at hsum
            rw [List.length_append] at hsum
            have hFn := Lib.hid (And.intro fn1 fn2)
            have hHH := Lib.hid (And.intro hR0 (And.intro hr hy))
            have hHtx := Lib.hid (And.intro htk htx)
            clear fn1 fn2 hR0 hr hy htk htx
            obtain ⟨av, cv, rfl⟩ := htI.slice
            have cx0 := cell2_0 hbx
            have cx1 := cell2_1 hbx
            have al := Go.Joins.below_alloc1 Wr (.cells #[.string ⟨#[]⟩, .bool false] 42)
            have kA := heap_below hbx al
            have z0 := cell2_0 kA
            have z1 := cell2_1 kA
            have hGW := Nat.lt_of_lt_of_le hG hI.below.size
            have hmW := cell_below hI.below hm
            have dB := Lib.hid (show _ ∧ _ from And.intro (show _ < Wr.drew.heap.size from hGW) (show MaxIs m Wr.drew from hmW))
            have dA := Lib.hid (show _ ∧ _ from And.intro (show _ < (Wr.alloc (.cells #[.string ⟨#[]⟩, .bool false] 42)).drew.heap.size from Nat.lt_of_lt_of_le hGW al.size) (show MaxIs m (Wr.alloc (.cells #[.string ⟨#[]⟩, .bool false] 42)).drew from cell_below al.drew hmW))
            have hlk := Lib.hid (And.intro hbx (And.intro al htI))
            have hnew := Lib.hid (World.alloc_heap_new Wr (.cells #[.string ⟨#[]⟩, .bool false] 42))
            have l1 : g7 + 1 < Wr.heap.size := (Array.getElem?_eq_some_iff.1 hbx).1
            have hHI := Lib.hid hI
            clear hbx kA hGW hmW hI htI al
            go_cut [15, 16, 17, 18] from 66 to 77 (fun a b c e W => ∃ (ad : Option Addr) (cp g17 : Nat), a = .slice ad Q1.length cp ∧ b = .int .i64 (Q2 : Int) ∧ c = .pointer (some ⟨g17, 0, none⟩) ∧ e = .int .i64 0 ∧ W.heap[g17]? = some (.cells #[.string ⟨Q3.toArray⟩, .bool Q4] 42 (0, 0)) ∧ Row W 1 (.slice ad Q1.length cp) Q1.length (strVals Q1) ∧ Below Wr.heap.size Wr W ∧ Wr.heap.size ≤ g17)
            case first =>
              go_region_held3 (fun V => V.cell? ⟨g7 + 1, 0, none⟩ = some (.string ⟨y1.toArray⟩) ∧ V.cell? ⟨g7 + 1, 1, none⟩ = some (.bool y2))
                (first | exact ⟨cx0, cx1⟩ | exact ⟨z0, z1⟩ | exact ⟨o0, o1⟩ | exact ⟨p0, p1⟩ | exact ⟨cell_below (Go.Joins.below_alloc1 _ _) o0, cell_below (Go.Joins.below_alloc1 _ _) o1⟩ | go_keep)
                (first
                  | (go_at_call 24; refine (HF.out _ dA.out.1 dA.out.2).mono ?_; rintro e w10 ⟨vf, rfl, xf, b10⟩; obtain ⟨af, cf, rfl⟩ := xf.slice; have n3 := heap_below (show (World.alloc Wr _).drew.heap[Wr.heap.size]? = _ from hnew.out) b10; have n0 := cell2_0 n3; have n1 := cell2_1 n3; have n4 := frozen2 n3 0; have n5 := frozen2 n3 1
                     have o0 := cell_below b10 (show (World.alloc Wr _).drew.cell? _ = _ from z0); have o1 := cell_below b10 (show (World.alloc Wr _).drew.cell? _ = _ from z1)
                     have p0 := cell_far2 (g := Wr.heap.size) (j := 0) (j' := 1) (u := .string ⟨Q3.toArray⟩) (u' := .bool Q4) o0 (by show g7 + 1 ≠ _; omega); have p1 := cell_far2 (g := Wr.heap.size) (j := 0) (j' := 1) (u := .string ⟨Q3.toArray⟩) (u' := .bool Q4) o1 (by show g7 + 1 ≠ _; omega))
                  | (go_at_call 24; refine (HF.out _ dB.out.1 dB.out.2).mono ?_; rintro e w10 ⟨vf, rfl, xf, b10⟩; obtain ⟨af, cf, rfl⟩ := xf.slice
                     have o0 := cell_below b10 (show Wr.drew.cell? _ = _ from cx0); have o1 := cell_below b10 (show Wr.drew.cell? _ = _ from cx1)))
              · go_wp2_with fail
                go_meet
                have hb0 : Below Wr.heap.size Wr w10 := (Below.refl _ Wr).drew.trans b10
                exact ⟨_, _, _, rfl, rfl, rfl, rfl, World.alloc_heap_new w10 _, (Row.of_own xf).alloc _, hb0.alloc hb0.size _, hb0.size⟩
              · go_wp2_with fail
                go_meet
                have hb0 : Below Wr.heap.size Wr w10 := (hlk.out.2.1).trans ((show Below (World.alloc Wr _).heap.size (World.alloc Wr _) w10 from (Below.refl _ _).drew.trans b10).mono hlk.out.2.1.size)
                exact ⟨_, _, _, rfl, rfl, rfl, rfl, set_two n3, Row.of_own (Txt.two (xf.lower (Nat.le_refl _)) (by show Wr.heap.size < (World.alloc Wr _).drew.heap.size; exact (Array.getElem?_eq_some_iff.1 hnew.out).1)), below_set (below_set hb0 (Nat.le_refl _)) (Nat.le_refl _), Nat.le_refl _⟩
            case rest =>
              obtain ⟨ad, cp, g17, rfl, rfl, rfl, rfl, g3, rwc, hb3, hgl⟩ := hcut
              have hbx := hlk.out.1
              have m11 := heap_below hbx hb3
              have htc := hlk.out.2.2.below hb3
              have hI := hHI.out
              have hsz := Nat.le_trans hI.size hb3.size
              have hne := own_ne htc g3 (by decide)
              have e0 := cell2_0 g3
              have e1 := cell2_1 g3
              have hm1 := Lib.hid (And.intro m11 g3)
              have hb3h := Lib.hid hb3
              clear hbx cx0 cx1 z0 z1 hI hb3
              go_upto_region 17 with (fail)
              have hg17 : g17 < wc.heap.size := (Array.getElem?_eq_some_iff.1 g3).1
              clear m11 g3
              have hgg : g17 ≠ g7 + 1 := by omega
              have htd := htc.drew
              have rwd := rwc.drew
              clear htc rwc
              go_region_held3 (fun V => V.cell? ⟨g17, 0, none⟩ = some (.string ⟨Q3.toArray⟩) ∧ V.cell? ⟨g17, 1, none⟩ = some (.bool Q4))
                (first | exact ⟨e0, e1⟩ | exact ⟨q0, q1⟩ | exact ⟨cell_far2 q0 hgg, cell_far2 q1 hgg⟩ | go_keep)
                ((refine step_app_txts (by rfl) (by rfl) W0.heap.size (by rfl) htd (by rfl) rwd (by omega) hsz ?_; intro v' w5 tv b5 gr
                  have n11 := (b5.block (g7 + 1) (by omega)).trans hm1.out.1
                  have n17 := (gr.block g17 hg17 (fun e => hne e.symm)).trans hm1.out.2
                  have q0 := cell2_0 n17; have q1 := cell2_1 n17; have q2 := cell2_0 n11; have q3 := cell2_1 n11; have q4 := frozen2 n11 0; have q5 := frozen2 n11 1))
              all_goals go_wp2
              all_goals
                obtain ⟨fn1, fn2⟩ := hFn.out
                have hI := hHI.out
                have tW := hI.below.trans (hb3h.out.mono hI.below.size)
                have hs5 : wc.heap.size ≤ w5.heap.size := b5.size
                have hwW : w.heap.size ≤ W0.heap.size := by omega
                have tW5 : Below w.heap.size w w5 := tW.drew.trans (b5.mono hwW)
                refine ⟨⟨k + 1, tt, rfl, rfl, ?_, by omega, by omega, by omega, hte, ?_⟩, by simp [intOf]; omega⟩
                · rw [fn1]; refine congrArg (Value.int .i64) ?_; show _ = ((P2 + Q2 : Nat) : Int); rw [IntKind.wrap_i64, Int.natCast_add]; omega
                · refine ⟨below_set (below_set tW5 (Nat.le_trans hw7.1 (Nat.le_succ _))) (Nat.le_trans hw7.1 (Nat.le_succ _)), fun j hj hj2 => ?_, by rw [fn2]; exact set_two n11, by rw [fn1]; exact tv.two (by have := hw7.2; omega), ?_⟩
                  · have hj3 : j < w5.heap.size := by omega
                    have e1 := (grown_cell w5 (g7 + 1) 0 (.string ⟨Q3.toArray⟩)).block j hj3 (fun e => hj2 (by cases e; rfl))
                    have e2 := (grown_cell (w5.setCell ⟨g7 + 1, 0, none⟩ (.string ⟨Q3.toArray⟩)) (g7 + 1) 1 (.bool Q4)).block j (Nat.lt_of_lt_of_le hj3 (grown_cell w5 (g7 + 1) 0 (.string ⟨Q3.toArray⟩)).size) (fun e => hj2 (by cases e; rfl))
                    exact e2.trans (e1.trans ((b5.block j hj).trans ((hb3h.out.block j (by have := hI.size; omega)).trans (hI.kept j hj hj2))))
                  · exact Nat.le_trans (Nat.le_trans hsz hs5) (Nat.le_trans (grown_cell w5 _ _ _).size (grown_cell _ _ _ _).size)
          · have c1' : decide ((k : Int) < l.length) = true := by simp; omega
            have c1n : decide (k < l.length) = true := decide_eq_true c1
            have c2' : decide ((k : Int) < 10) = false := by simp; omega
            have hte : k + 1 = l.length + 1 ∨ k + 1 = 11 → s.length = s.length := fun _ => rfl
            go_upto_region 14 with (fail)
            have htk := take_more s fr s.length (by omega)
            obtain ⟨tx, htx⟩ : ∃ tx, tx = (s.drop fr).take (s.length - fr) := ⟨_, rfl⟩
            have hsub := sub_mid s fr s.length (by omega) (by omega)
            have htl : tx.length ≤ 3000 := by rw [htx, List.length_take, List.length_drop]; omega
            rw [← htx] at hsub htk
            obtain ⟨fn1, fn2⟩ := feed_next (s.take fr) tx
            rw [← htk] at fn1 fn2
            have HF := Lib.hid (fun W hG hm => by
              have h := Feed_any m (nextF (splitS (s.take fr)).2).1 (nextF (splitS (s.take fr)).2).2 tx W hG hm
              rw [show ((nextF (splitS (s.take fr)).2).1, (nextF (splitS (s.take fr)).2).2) = nextF (splitS (s.take fr)).2 from rfl, feedF_next (s.take fr) tx htl] at h
              unfold FeedPost at h
              exact h)
            have hbx := hI.box
            have htI := hI.txt
            obtain ⟨R0, hR0⟩ : ∃ R0, R0 = splitS (s.take fr) := ⟨_, rfl⟩
            rw [← hR0] at HF hbx htI fn1 fn2 hlen ⊢
            obtain ⟨r, hr⟩ : ∃ r, r = feedS (List.replicate 1301 1) (nextF R0.2) tx := ⟨_, rfl⟩
            rw [← hr] at HF fn1 fn2
            obtain ⟨y, hy⟩ : ∃ y, y = nextF R0.2 := ⟨_, rfl⟩
            rw [← hy] at HF hbx
            obtain ⟨⟨P1, P2⟩, P3⟩ := R0
            obtain ⟨⟨Q1, Q2⟩, ⟨Q3, Q4⟩⟩ := r
            obtain ⟨y1, y2⟩ := y
            dsimp only at HF hbx htI fn1 fn2 hlen ⊢
            have hsum := lens_small (s.take s.length)
            rw [fn1] at hsum
            rw [List.length_take] at hsum
            dsimp only at hsum
            rw [List.length_append] at hsum
            have hFn := Lib.hid (And.intro fn1 fn2)
            have hHH := Lib.hid (And.intro hR0 (And.intro hr hy))
            have hHtx := Lib.hid (And.intro htk htx)
            clear fn1 fn2 hR0 hr hy htk htx
            obtain ⟨av, cv, rfl⟩ := htI.slice
            have cx0 := cell2_0 hbx
            have cx1 := cell2_1 hbx
            have al := Go.Joins.below_alloc1 Wr (.cells #[.string ⟨#[]⟩, .bool false] 42)
            have kA := heap_below hbx al
            have z0 := cell2_0 kA
            have z1 := cell2_1 kA
            have hGW := Nat.lt_of_lt_of_le hG hI.below.size
            have hmW := cell_below hI.below hm
            have dB := Lib.hid (show _ ∧ _ from And.intro (show _ < Wr.drew.heap.size from hGW) (show MaxIs m Wr.drew from hmW))
            have dA := Lib.hid (show _ ∧ _ from And.intro (show _ < (Wr.alloc (.cells #[.string ⟨#[]⟩, .bool false] 42)).drew.heap.size from Nat.lt_of_lt_of_le hGW al.size) (show MaxIs m (Wr.alloc (.cells #[.string ⟨#[]⟩, .bool false] 42)).drew from cell_below al.drew hmW))
            have hlk := Lib.hid (And.intro hbx (And.intro al htI))
            have hnew := Lib.hid (World.alloc_heap_new Wr (.cells #[.string ⟨#[]⟩, .bool false] 42))
            have l1 : g7 + 1 < Wr.heap.size := (Array.getElem?_eq_some_iff.1 hbx).1
            have hHI := Lib.hid hI
            clear hbx kA hGW hmW hI htI al
            go_cut [15, 16, 17, 18] from 66 to 77 (fun a b c e W => ∃ (ad : Option Addr) (cp g17 : Nat), a = .slice ad Q1.length cp ∧ b = .int .i64 (Q2 : Int) ∧ c = .pointer (some ⟨g17, 0, none⟩) ∧ e = .int .i64 0 ∧ W.heap[g17]? = some (.cells #[.string ⟨Q3.toArray⟩, .bool Q4] 42 (0, 0)) ∧ Row W 1 (.slice ad Q1.length cp) Q1.length (strVals Q1) ∧ Below Wr.heap.size Wr W ∧ Wr.heap.size ≤ g17)
            case first =>
              go_region_held3 (fun V => V.cell? ⟨g7 + 1, 0, none⟩ = some (.string ⟨y1.toArray⟩) ∧ V.cell? ⟨g7 + 1, 1, none⟩ = some (.bool y2))
                (first | exact ⟨cx0, cx1⟩ | exact ⟨z0, z1⟩ | exact ⟨o0, o1⟩ | exact ⟨p0, p1⟩ | exact ⟨cell_below (Go.Joins.below_alloc1 _ _) o0, cell_below (Go.Joins.below_alloc1 _ _) o1⟩ | go_keep)
                (first
                  | (go_at_call 24; refine (HF.out _ dA.out.1 dA.out.2).mono ?_; rintro e w10 ⟨vf, rfl, xf, b10⟩; obtain ⟨af, cf, rfl⟩ := xf.slice; have n3 := heap_below (show (World.alloc Wr _).drew.heap[Wr.heap.size]? = _ from hnew.out) b10; have n0 := cell2_0 n3; have n1 := cell2_1 n3; have n4 := frozen2 n3 0; have n5 := frozen2 n3 1
                     have o0 := cell_below b10 (show (World.alloc Wr _).drew.cell? _ = _ from z0); have o1 := cell_below b10 (show (World.alloc Wr _).drew.cell? _ = _ from z1)
                     have p0 := cell_far2 (g := Wr.heap.size) (j := 0) (j' := 1) (u := .string ⟨Q3.toArray⟩) (u' := .bool Q4) o0 (by show g7 + 1 ≠ _; omega); have p1 := cell_far2 (g := Wr.heap.size) (j := 0) (j' := 1) (u := .string ⟨Q3.toArray⟩) (u' := .bool Q4) o1 (by show g7 + 1 ≠ _; omega))
                  | (go_at_call 24; refine (HF.out _ dB.out.1 dB.out.2).mono ?_; rintro e w10 ⟨vf, rfl, xf, b10⟩; obtain ⟨af, cf, rfl⟩ := xf.slice
                     have o0 := cell_below b10 (show Wr.drew.cell? _ = _ from cx0); have o1 := cell_below b10 (show Wr.drew.cell? _ = _ from cx1)))
              · go_wp2_with fail
                go_meet
                have hb0 : Below Wr.heap.size Wr w10 := (Below.refl _ Wr).drew.trans b10
                exact ⟨_, _, _, rfl, rfl, rfl, rfl, World.alloc_heap_new w10 _, (Row.of_own xf).alloc _, hb0.alloc hb0.size _, hb0.size⟩
              · go_wp2_with fail
                go_meet
                have hb0 : Below Wr.heap.size Wr w10 := (hlk.out.2.1).trans ((show Below (World.alloc Wr _).heap.size (World.alloc Wr _) w10 from (Below.refl _ _).drew.trans b10).mono hlk.out.2.1.size)
                exact ⟨_, _, _, rfl, rfl, rfl, rfl, set_two n3, Row.of_own (Txt.two (xf.lower (Nat.le_refl _)) (by show Wr.heap.size < (World.alloc Wr _).drew.heap.size; exact (Array.getElem?_eq_some_iff.1 hnew.out).1)), below_set (below_set hb0 (Nat.le_refl _)) (Nat.le_refl _), Nat.le_refl _⟩
            case rest =>
              obtain ⟨ad, cp, g17, rfl, rfl, rfl, rfl, g3, rwc, hb3, hgl⟩ := hcut
              have hbx := hlk.out.1
              have m11 := heap_below hbx hb3
              have htc := hlk.out.2.2.below hb3
              have hI := hHI.out
              have hsz := Nat.le_trans hI.size hb3.size
              have hne := own_ne htc g3 (by decide)
              have e0 := cell2_0 g3
              have e1 := cell2_1 g3
              have hm1 := Lib.hid (And.intro m11 g3)
              have hb3h := Lib.hid hb3
              clear hbx cx0 cx1 z0 z1 hI hb3
              go_upto_region 17 with (fail)
              have hg17 : g17 < wc.heap.size := (Array.getElem?_eq_some_iff.1 g3).1
              clear m11 g3
              have hgg : g17 ≠ g7 + 1 := by omega
              have htd := htc.drew
              have rwd := rwc.drew
              clear htc rwc
              go_region_held3 (fun V => V.cell? ⟨g17, 0, none⟩ = some (.string ⟨Q3.toArray⟩) ∧ V.cell? ⟨g17, 1, none⟩ = some (.bool Q4))
                (first | exact ⟨e0, e1⟩ | exact ⟨q0, q1⟩ | exact ⟨cell_far2 q0 hgg, cell_far2 q1 hgg⟩ | go_keep)
                ((refine step_app_txts (by rfl) (by rfl) W0.heap.size (by rfl) htd (by rfl) rwd (by omega) hsz ?_; intro v' w5 tv b5 gr
                  have n11 := (b5.block (g7 + 1) (by omega)).trans hm1.out.1
                  have n17 := (gr.block g17 hg17 (fun e => hne e.symm)).trans hm1.out.2
                  have q0 := cell2_0 n17; have q1 := cell2_1 n17; have q2 := cell2_0 n11; have q3 := cell2_1 n11; have q4 := frozen2 n11 0; have q5 := frozen2 n11 1))
              all_goals go_wp2
              all_goals
                obtain ⟨fn1, fn2⟩ := hFn.out
                have hI := hHI.out
                have tW := hI.below.trans (hb3h.out.mono hI.below.size)
                have hs5 : wc.heap.size ≤ w5.heap.size := b5.size
                have hwW : w.heap.size ≤ W0.heap.size := by omega
                have tW5 : Below w.heap.size w w5 := tW.drew.trans (b5.mono hwW)
                refine ⟨⟨k + 1, s.length, rfl, rfl, ?_, by omega, by omega, by omega, hte, ?_⟩, by simp [intOf]; omega⟩
                · rw [fn1]; refine congrArg (Value.int .i64) ?_; show _ = ((P2 + Q2 : Nat) : Int); rw [IntKind.wrap_i64, Int.natCast_add]; omega
                · refine ⟨below_set (below_set tW5 (Nat.le_trans hw7.1 (Nat.le_succ _))) (Nat.le_trans hw7.1 (Nat.le_succ _)), fun j hj hj2 => ?_, by rw [fn2]; exact set_two n11, by rw [fn1]; exact tv.two (by have := hw7.2; omega), ?_⟩
                  · have hj3 : j < w5.heap.size := by omega
                    have e1 := (grown_cell w5 (g7 + 1) 0 (.string ⟨Q3.toArray⟩)).block j hj3 (fun e => hj2 (by cases e; rfl))
                    have e2 := (grown_cell (w5.setCell ⟨g7 + 1, 0, none⟩ (.string ⟨Q3.toArray⟩)) (g7 + 1) 1 (.bool Q4)).block j (Nat.lt_of_lt_of_le hj3 (grown_cell w5 (g7 + 1) 0 (.string ⟨Q3.toArray⟩)).size) (fun e => hj2 (by cases e; rfl))
                    exact e2.trans (e1.trans ((b5.block j hj).trans ((hb3h.out.block j (by have := hI.size; omega)).trans (hI.kept j hj hj2))))
                  · exact Nat.le_trans (Nat.le_trans hsz hs5) (Nat.le_trans (grown_cell w5 _ _ _).size (grown_cell _ _ _ _).size)
        · have c1' : decide ((k : Int) < l.length) = false := by simp; omega
          have c1n : decide (k < l.length) = false := decide_eq_false c1
          have hte : k + 1 = l.length + 1 ∨ k + 1 = 11 → s.length = s.length := fun _ => rfl
          go_upto_region 14 with (fail)
          have htk := take_more s fr s.length (by omega)
          obtain ⟨tx, htx⟩ : ∃ tx, tx = (s.drop fr).take (s.length - fr) := ⟨_, rfl⟩
          have hsub := sub_mid s fr s.length (by omega) (by omega)
          have htl : tx.length ≤ 3000 := by rw [htx, List.length_take, List.length_drop]; omega
          rw [← htx] at hsub htk
          obtain ⟨fn1, fn2⟩ := feed_next (s.take fr) tx
          rw [← htk] at fn1 fn2
          have HF := Lib.hid (fun W hG hm => by
            have h := Feed_any m (nextF (splitS (s.take fr)).2).1 (nextF (splitS (s.take fr)).2).2 tx W hG hm
            rw [show ((nextF (splitS (s.take fr)).2).1, (nextF (splitS (s.take fr)).2).2) = nextF (splitS (s.take fr)).2 from rfl, feedF_next (s.take fr) tx htl] at h
            unfold FeedPost at h
            exact h)
          have hbx := hI.box
          have htI := hI.txt
          obtain ⟨R0, hR0⟩ : ∃ R0, R0 = splitS (s.take fr) := ⟨_, rfl⟩
          rw [← hR0] at HF hbx htI fn1 fn2 hlen ⊢
          obtain ⟨r, hr⟩ : ∃ r, r = feedS (List.replicate 1301 1) (nextF R0.2) tx := ⟨_, rfl⟩
          rw [← hr] at HF fn1 fn2
          obtain ⟨y, hy⟩ : ∃ y, y = nextF R0.2 := ⟨_, rfl⟩
          rw [← hy] at HF hbx
          obtain ⟨⟨P1, P2⟩, P3⟩ := R0
          obtain ⟨⟨Q1, Q2⟩, ⟨Q3, Q4⟩⟩ := r
          obtain ⟨y1, y2⟩ := y
          dsimp only at HF hbx htI fn1 fn2 hlen ⊢
          have hsum := lens_small (s.take s.length)
          rw [fn1] at hsum
          rw [List.length_take] at hsum
          dsimp only at hsum
          rw [List.length_append] at hsum
          have hFn := Lib.hid (And.intro fn1 fn2)
          have hHH := Lib.hid (And.intro hR0 (And.intro hr hy))
          have hHtx := Lib.hid (And.intro htk htx)
          clear fn1 fn2 hR0 hr hy htk htx
          obtain ⟨av, cv, rfl⟩ := htI.slice
          have cx0 := cell2_0 hbx
          have cx1 := cell2_1 hbx
          have al := Go.Joins.below_alloc1 Wr (.cells #[.string ⟨#[]⟩, .bool false] 42)
          have kA := heap_below hbx al
          have z0 := cell2_0 kA
          have z1 := cell2_1 kA
          have hGW := Nat.lt_of_lt_of_le hG hI.below.size
          have hmW := cell_below hI.below hm
          have dB := Lib.hid (show _ ∧ _ from And.intro (show _ < Wr.drew.heap.size from hGW) (show MaxIs m Wr.drew from hmW))
          have dA := Lib.hid (show _ ∧ _ from And.intro (show _ < (Wr.alloc (.cells #[.string ⟨#[]⟩, .bool false] 42)).drew.heap.size from Nat.lt_of_lt_of_le hGW al.size) (show MaxIs m (Wr.alloc (.cells #[.string ⟨#[]⟩, .bool false] 42)).drew from cell_below al.drew hmW))
          have hlk := Lib.hid (And.intro hbx (And.intro al htI))
          have hnew := Lib.hid (World.alloc_heap_new Wr (.cells #[.string ⟨#[]⟩, .bool false] 42))
          have l1 : g7 + 1 < Wr.heap.size := (Array.getElem?_eq_some_iff.1 hbx).1
          have hHI := Lib.hid hI
          clear hbx kA hGW hmW hI htI al
          go_cut [15, 16, 17, 18] from 66 to 77 (fun a b c e W => ∃ (ad : Option Addr) (cp g17 : Nat), a = .slice ad Q1.length cp ∧ b = .int .i64 (Q2 : Int) ∧ c = .pointer (some ⟨g17, 0, none⟩) ∧ e = .int .i64 0 ∧ W.heap[g17]? = some (.cells #[.string ⟨Q3.toArray⟩, .bool Q4] 42 (0, 0)) ∧ Row W 1 (.slice ad Q1.length cp) Q1.length (strVals Q1) ∧ Below Wr.heap.size Wr W ∧ Wr.heap.size ≤ g17)
          case first =>
            go_region_held3 (fun V => V.cell? ⟨g7 + 1, 0, none⟩ = some (.string ⟨y1.toArray⟩) ∧ V.cell? ⟨g7 + 1, 1, none⟩ = some (.bool y2))
              (first | exact ⟨cx0, cx1⟩ | exact ⟨z0, z1⟩ | exact ⟨o0, o1⟩ | exact ⟨p0, p1⟩ | exact ⟨cell_below (Go.Joins.below_alloc1 _ _) o0, cell_below (Go.Joins.below_alloc1 _ _) o1⟩ | go_keep)
              (first
                | (go_at_call 24; refine (HF.out _ dA.out.1 dA.out.2).mono ?_; rintro e w10 ⟨vf, rfl, xf, b10⟩; obtain ⟨af, cf, rfl⟩ := xf.slice; have n3 := heap_below (show (World.alloc Wr _).drew.heap[Wr.heap.size]? = _ from hnew.out) b10; have n0 := cell2_0 n3; have n1 := cell2_1 n3; have n4 := frozen2 n3 0; have n5 := frozen2 n3 1
                   have o0 := cell_below b10 (show (World.alloc Wr _).drew.cell? _ = _ from z0); have o1 := cell_below b10 (show (World.alloc Wr _).drew.cell? _ = _ from z1)
                   have p0 := cell_far2 (g := Wr.heap.size) (j := 0) (j' := 1) (u := .string ⟨Q3.toArray⟩) (u' := .bool Q4) o0 (by show g7 + 1 ≠ _; omega); have p1 := cell_far2 (g := Wr.heap.size) (j := 0) (j' := 1) (u := .string ⟨Q3.toArray⟩) (u' := .bool Q4) o1 (by show g7 + 1 ≠ _; omega))
                | (go_at_call 24; refine (HF.out _ dB.out.1 dB.out.2).mono ?_; rintro e w10 ⟨vf, rfl, xf, b10⟩; obtain ⟨af, cf, rfl⟩ := xf.slice
                   have o0 := cell_below b10 (show Wr.drew.cell? _ = _ from cx0); have o1 := cell_below b10 (show Wr.drew.cell? _ = _ from cx1)))
            · go_wp2_with fail
              go_meet
              have hb0 : Below Wr.heap.size Wr w10 := (Below.refl _ Wr).drew.trans b10
              exact ⟨_, _, _, rfl, rfl, rfl, rfl, World.alloc_heap_new w10 _, (Row.of_own xf).alloc _, hb0.alloc hb0.size _, hb0.size⟩
            · go_wp2_with fail
              go_meet
              have hb0 : Below Wr.heap.size Wr w10 := (hlk.out.2.1).trans ((show Below (World.alloc Wr _).heap.size (World.alloc Wr _) w10 from (Below.refl _ _).drew.trans b10).mono hlk.out.2.1.size)
              exact ⟨_, _, _, rfl, rfl, rfl, rfl, set_two n3, Row.of_own (Txt.two (xf.lower (Nat.le_refl _)) (by show Wr.heap.size < (World.alloc Wr _).drew.heap.size; exact (Array.getElem?_eq_some_iff.1 hnew.out).1)), below_set (below_set hb0 (Nat.le_refl _)) (Nat.le_refl _), Nat.le_refl _⟩
          case rest =>
            obtain ⟨ad, cp, g17, rfl, rfl, rfl, rfl, g3, rwc, hb3, hgl⟩ := hcut
            have hbx := hlk.out.1
            have m11 := heap_below hbx hb3
            have htc := hlk.out.2.2.below hb3
            have hI := hHI.out
            have hsz := Nat.le_trans hI.size hb3.size
            have hne := own_ne htc g3 (by decide)
            have e0 := cell2_0 g3
            have e1 := cell2_1 g3
            have hm1 := Lib.hid (And.intro m11 g3)
            have hb3h := Lib.hid hb3
            clear hbx cx0 cx1 z0 z1 hI hb3
            go_upto_region 17 with (fail)
            have hg17 : g17 < wc.heap.size := (Array.getElem?_eq_some_iff.1 g3).1
            clear m11 g3
            have hgg : g17 ≠ g7 + 1 := by omega
            have htd := htc.drew
            have rwd := rwc.drew
            clear htc rwc
            go_region_held3 (fun V => V.cell? ⟨g17, 0, none⟩ = some (.string ⟨Q3.toArray⟩) ∧ V.cell? ⟨g17, 1, none⟩ = some (.bool Q4))
              (first | exact ⟨e0, e1⟩ | exact ⟨q0, q1⟩ | exact ⟨cell_far2 q0 hgg, cell_far2 q1 hgg⟩ | go_keep)
              ((refine step_app_txts (by rfl) (by rfl) W0.heap.size (by rfl) htd (by rfl) rwd (by omega) hsz ?_; intro v' w5 tv b5 gr
                have n11 := (b5.block (g7 + 1) (by omega)).trans hm1.out.1
                have n17 := (gr.block g17 hg17 (fun e => hne e.symm)).trans hm1.out.2
                have q0 := cell2_0 n17; have q1 := cell2_1 n17; have q2 := cell2_0 n11; have q3 := cell2_1 n11; have q4 := frozen2 n11 0; have q5 := frozen2 n11 1))
            all_goals go_wp2
            all_goals
              obtain ⟨fn1, fn2⟩ := hFn.out
              have hI := hHI.out
              have tW := hI.below.trans (hb3h.out.mono hI.below.size)
              have hs5 : wc.heap.size ≤ w5.heap.size := b5.size
              have hwW : w.heap.size ≤ W0.heap.size := by omega
              have tW5 : Below w.heap.size w w5 := tW.drew.trans (b5.mono hwW)
              refine ⟨⟨k + 1, s.length, rfl, rfl, ?_, by omega, by omega, by omega, hte, ?_⟩, by simp [intOf]; omega⟩
              · rw [fn1]; refine congrArg (Value.int .i64) ?_; show _ = ((P2 + Q2 : Nat) : Int); rw [IntKind.wrap_i64, Int.natCast_add]; omega
              · refine ⟨below_set (below_set tW5 (Nat.le_trans hw7.1 (Nat.le_succ _))) (Nat.le_trans hw7.1 (Nat.le_succ _)), fun j hj hj2 => ?_, by rw [fn2]; exact set_two n11, by rw [fn1]; exact tv.two (by have := hw7.2; omega), ?_⟩
                · have hj3 : j < w5.heap.size := by omega
                  have e1 := (grown_cell w5 (g7 + 1) 0 (.string ⟨Q3.toArray⟩)).block j hj3 (fun e => hj2 (by cases e; rfl))
                  have e2 := (grown_cell (w5.setCell ⟨g7 + 1, 0, none⟩ (.string ⟨Q3.toArray⟩)) (g7 + 1) 1 (.bool Q4)).block j (Nat.lt_of_lt_of_le hj3 (grown_cell w5 (g7 + 1) 0 (.string ⟨Q3.toArray⟩)).size) (fun e => hj2 (by cases e; rfl))
                  exact e2.trans (e1.trans ((b5.block j hj).trans ((hb3h.out.block j (by have := hI.size; omega)).trans (hI.kept j hj hj2))))
                · exact Nat.le_trans (Nat.le_trans hsz hs5) (Nat.le_trans (grown_cell w5 _ _ _).size (grown_cell _ _ _ _).size)
      · have hfs : fr = s.length := by omega
        subst hfs
        have hbx := hI.box
        have htI := hI.txt
        rw [List.take_length] at hbx htI ⊢
        obtain ⟨hX1, hF1, hG1⟩ := hH.out
        rw [← hX1] at hbx
        rw [← hF1] at htI
        rw [← hG1]
        have h7 := (hI.kept g7 (by omega) (by omega)).trans k1
        have hal := txt_same x1' (w' := Wr) (fun g hg => hI.kept g (by
          rcases x1'.2 with ⟨h1, _⟩ | ⟨g', cap, cur, h1, _, hh, _⟩
          · rw [h1] at hg; simp [Value.ownBlock] at hg
          · rw [h1] at hg
            simp only [Value.ownBlock, Option.some.injEq] at hg
            subst hg
            exact (Array.getElem?_eq_some_iff.1 hh).1) (fun e => own_ne x1' k2 (by decide) (by rw [hg, e])))
        have hq := eq_stream X1.1 X1.1 X1.2 X1.2
        rw [show ((X1.1 == X1.1) && (X1.2 == X1.2)) = true by simp] at hq
        have HS := Lib.hid (SameTexts_same F1 _ _ Wr (Row.of_own hal) (Row.of_own htI) (by omega))
        obtain ⟨av, cv, rfl⟩ := htI.slice
        have hB := Lib.hid hI.below
        have hgo2 : (k = l.length + 1 ∧ ¬ k ≤ l.length) ∨ (k ≤ l.length ∧ k = 11) := by omega
        have hb7 := Lib.hid h7
        have hb11 := Lib.hid hbx
        clear hal htI hI hgo hend hX1 hF1 hG1 h7 hbx
        rcases hgo2 with ⟨hk1, hk2⟩ | ⟨hk1, hk2⟩
        · have n1 : decide (k ≤ l.length) = false := decide_eq_false hk2
          have n2 : decide ((k : Int) ≤ l.length) = false := by simp; omega
          have z0 := cell2_0 hb7.out
          have z1 := cell2_1 hb7.out
          have z2 := cell2_0 hb11.out
          have z3 := cell2_1 hb11.out
          go_wp2_with fail
          refine HS.out.mono ?_
          rintro e w12 ⟨rfl, b12⟩
          have j7 := heap_below hb7.out b12
          have j11 := heap_below hb11.out b12
          have z0 := cell2_0 j7
          have z1 := cell2_1 j7
          have z2 := cell2_0 j11
          have z3 := cell2_1 j11
          go_wp2_with fail
          refine (HA.out _).mono ?_
          rintro e w13 ⟨rfl, b13⟩
          go_wp2
          go_ret
          exact ⟨rfl, andThen (andThen hB.out b12) b13⟩
        · have n1 : decide (k ≤ l.length) = true := decide_eq_true hk1
          subst hk2
          have z0 := cell2_0 hb7.out
          have z1 := cell2_1 hb7.out
          have z2 := cell2_0 hb11.out
          have z3 := cell2_1 hb11.out
          go_wp2_with fail
          refine HS.out.mono ?_
          rintro e w12 ⟨rfl, b12⟩
          have j7 := heap_below hb7.out b12
          have j11 := heap_below hb11.out b12
          have z0 := cell2_0 j7
          have z1 := cell2_1 j7
          have z2 := cell2_0 j11
          have z3 := cell2_1 j11
          go_wp2_with fail
          refine (HA.out _).mono ?_
          rintro e w13 ⟨rfl, b13⟩
          go_wp2
          go_ret
          exact ⟨rfl, andThen (andThen hB.out b12) b13⟩
theorem piecesLaw_shaped (s : List UInt8) (_ : s.length ≤ 140737488351232) (l : List Int) (v : Value) (hl : l.length ≤ maxLen) (hwf : ∀ n ∈ l, (Lit.int .i64 n).wf = true) (W : World) (hrow : Row W 1 v l.length (l.map fun n => .int .i64 n)) (hsh : W.ShapedOpen Tryd.prog) :
    Calls Tryd.prog 9 #[.string ⟨s.toArray⟩, v] W fun e w' => e = .returned (.bool true) ∧ Below W.heap.size W w' := by
  obtain ⟨m, hm, hG⟩ := max_shaped W hsh
  exact pieces_any' m s l v W hG hm hl hwf hrow
end Go.Proofs.YtcpahelmaejjeaaDoor
