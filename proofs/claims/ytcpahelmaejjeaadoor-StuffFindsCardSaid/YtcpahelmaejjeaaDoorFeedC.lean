/- The walk of Feed, chapter 10. -/
import Derived.Test.YtcpahelmaejjeaaDoorFeedB
namespace Go.Proofs.YtcpahelmaejjeaaDoor
open Go.RowKit Go.Shelf Stuff10

theorem results_feed {fn : Func} {P : Program} {p t u v : Tmp} {ty : TypeId} (h : fn.results = #[.tmp t, .tmp u, .cell p ty, .tmp v]) (tmps : Array Value) (w : World) (g : Nat) (tt : TypeId) (cs : Array Value) (fr : Nat × Nat) (d : TypeDesc)
    (hp : tmps.getD p undef = .pointer (some ⟨g, 0, none⟩)) (hg : w.heap[g]? = some (.cells cs tt fr))
    (hu : P.underlying ty = some d) (hd : (match d with | .struct _ | .array _ _ => true | _ => false) = true) (hi : (P.info? ty).map (·.size) = some cs.size) :
    (results fn tmps).run P w = .ok (.tuple #[tmps.getD t undef, tmps.getD u undef, .agg cs, tmps.getD v undef]) w := by
  have hp' : tmps[p]?.getD undef = .pointer (some ⟨g, 0, none⟩) := by simpa using hp
  simp [results, h, hp', asAddr, Result.andThen, run_loadVar_row w g tt ty cs fr d hg hu hd hi]
def FeedPost (w : World) (r : ((List (List UInt8) × Nat) × St) × Nat) (e : Ending) (w' : World) : Prop :=
  ∃ v, e = .returned (.tuple #[v, .int .i64 (r.1.1.2 : Int), .agg #[.string ⟨r.1.2.1.toArray⟩, .bool r.1.2.2], .int .i64 (r.2 : Int)]) ∧ Txt w' w.heap.size v r.1.1.1 ∧ Below w.heap.size w w'
theorem set_two {w : World} {b t : Nat} {x y x' y' : Value} (h : w.heap[b]? = some (.cells #[x, y] t (0, 0))) : ((w.setCell ⟨b, 0, none⟩ x').setCell ⟨b, 1, none⟩ y').heap[b]? = some (.cells #[x', y'] t (0, 0)) :=
  Lib.heap_setCell_same (i := 1) (Lib.heap_setCell_same (i := 0) h x') y'
theorem two_other {w : World} {b b' j j' : Nat} {u u' : Value} {o : Obj} (hne : b' ≠ b) (h : w.heap[b']? = some o) : ((w.setCell ⟨b, j, none⟩ u).setCell ⟨b, j', none⟩ u').heap[b']? = some o := by
  have h1 := (grown_cell w b j u).block b' (Array.getElem?_eq_some_iff.1 h).1 (fun e => hne (by cases e; rfl))
  have h2 := (grown_cell (w.setCell ⟨b, j, none⟩ u) b j' u').block b' (by rw [← h1] at h; exact (Array.getElem?_eq_some_iff.1 h).1) (fun e => hne (by cases e; rfl))
  rw [h2, h1]; exact h
theorem Txt.two {w : World} {B b j j' : Nat} {v u u' : Value} {l : List (List UInt8)} (h : Txt w B v l) (hb : b < B) : Txt ((w.setCell ⟨b, j, none⟩ u).setCell ⟨b, j', none⟩ u') B v l := own_set (own_set h hb) hb
theorem repeat_replicate (b : UInt8) : ∀ n : Nat, Lib.repeatL [b] n = List.replicate n b
  | 0 => rfl
  | n + 1 => by rw [Lib.repeatL, repeat_replicate b n]; rfl

set_option maxHeartbeats 4000000 in
set_option maxRecDepth 100000 in
theorem Feed_any (m : Int) (h : List UInt8) (o : Bool) (s : List UInt8) (w : World) (hG : 1 < w.heap.size) (hm : MaxIs m w) :
    Calls Tryd.prog 24 #[.agg #[.string ⟨h.toArray⟩, .bool o], .string ⟨s.toArray⟩] w (FeedPost w (feedF (h, o) s)) := by
  obtain ⟨r, hr⟩ : ∃ r, r = feedF (h, o) s := ⟨_, rfl⟩
  rw [← hr]
  unfold feedF at hr
  have HC := Lib.hid (fun W => CheckS_any h o W)
  obtain ⟨k1, k2, hsz, hbl⟩ := alloc2 w (.cells #[.string ⟨h.toArray⟩, .bool o] 42) (.cells #[.string ⟨#[]⟩, .bool false] 42)
  by_cases h0 : checkF (h, o) = 0
  · rw [if_neg (by rw [h0]; simp)] at hr
    rw [h0] at HC
    by_cases h1 : 20000 < s.length
    · have h1' : decide ((20000 : Int) < s.length) = true := by simp; omega
      rw [if_pos h1] at hr
      subst hr
      clear h0 h1
      go_enter Tryd.func24, Tryd.ntmps24
      go_wp2_with fail
      refine (HC.out _).mono ?_
      rintro e w1 ⟨rfl, b1⟩
      have j2 := heap_below k2 b1
      have c0 := cell2_0 j2
      have c1 := cell2_1 j2
      have f0 := frozen2 j2 0
      have f1 := frozen2 j2 1
      have t1 := hbl.trans (b1.mono hbl.size)
      clear k1 k2 hsz hbl b1
      go_wp2
      refine bodyPost_ret (results_feed rfl _ _ (w.heap.size + 1) _ _ _ _ rfl (set_two j2) Tryd.underlying42 rfl (by kernel_rfl)) rfl ⟨_, rfl, Txt.nil _ _, below_set (below_set t1 (by omega)) (by omega)⟩
    · have h1' : decide ((20000 : Int) < s.length) = false := by simp; omega
      rw [if_neg h1] at hr
      have hhl : h.length ≤ 1300 := by
        rcases Nat.lt_or_ge 1300 h.length with g | g
        · rw [checkF_long g] at h0; cases h0
        · exact g
      have HR := Lib.hid (fun W => Tryd.strings_Repeat ⟨#[1]⟩ 1301 W (by decide) (by decide))
      rw [show (⟨#[1]⟩ : ByteArray).data.toList = [1] from rfl, repeat_replicate 1 1301] at HR
      obtain ⟨Z, hZ⟩ : ∃ Z, Z = List.replicate 1301 (1 : UInt8) := ⟨_, rfl⟩
      have hZl : Z.length = 1301 := by rw [hZ, List.length_replicate]
      rw [← hZ] at HR hr
      unfold feedS at hr
      obtain ⟨q, hq⟩ : ∃ q, q = splitS (heldF Z (h, o) ++ s) := ⟨_, rfl⟩
      have HS := Lib.hid (fun (x : ByteArray) W (hx : x.data.toList = heldF Z (h, o) ++ s) (hl : x.size < 4294967281) hG hm => by
        have := split_any m x hl W hG hm
        rw [hx, ← hq] at this
        exact this)
      rw [← hq] at hr
      obtain ⟨⟨q1, q2⟩, q3⟩ := q
      dsimp only at hr HS
      clear hq hZ h0
      have hHr := Lib.hid hr
      clear hr
      cases o with
      | false =>
        go_enter Tryd.func24, Tryd.ntmps24
        go_wp2_with fail
        refine (HC.out _).mono ?_
        rintro e w1 ⟨rfl, b1⟩
        have j1 := heap_below k1 b1
        have j2 := heap_below k2 b1
        have c0 := cell2_0 j1
        have c1 := cell2_1 j1
        have t1 := hbl.trans (b1.mono hbl.size)
        have hz1 : w.heap.size + 2 ≤ w1.heap.size := by have := b1.size; omega
        have hG1 := Nat.lt_of_lt_of_le hG t1.size
        have hm1 := cell_below t1 hm
        clear k1 k2 hbl b1
        go_wp2_with fail
        refine (HS.out _ w1 rfl (by rw [ByteArray.size_append]; show h.length + s.length < _; omega) hG1 hm1).mono ?_
        rintro e w2 ⟨v, rfl, ht, b2⟩
        obtain ⟨ad, cp, rfl⟩ := ht.slice
        have a2 := Go.Joins.below_alloc1 w2 (.cells #[.slice ad q1.length cp, .int .i64 (q2 : Int)] 68)
        have q := b2.trans (a2.mono b2.size)
        have n2 := heap_below j2 q
        have ka := World.alloc_heap_new w2 (.cells #[.slice ad q1.length cp, .int .i64 (q2 : Int)] 68)
        have t2 := t1.trans (q.mono t1.size)
        have ht2 := ht.below a2
        have hlt : w.heap.size + 1 < w2.heap.size := by have := b2.size; omega
        have c0' := cell2_0 n2
        have c1' := cell2_1 n2
        have f0' := frozen2 n2 0
        have f1' := frozen2 n2 1
        go_upto_region 10 with (fail)
        generalize (w2.alloc (.cells #[.slice ad q1.length cp, .int .i64 (q2 : Int)] 68)) = W at *
        go_upto_region 11 with (fail)
        have S1 := set_two (x' := .string ⟨q3.toArray⟩) (y' := .bool false) n2
        have K1 := two_other (b := w.heap.size + 1) (j := 0) (j' := 1) (u := .string ⟨q3.toArray⟩) (u' := .bool false) (by omega) ka
        have X1 := ht2.two (b := w.heap.size + 1) (j := 0) (j' := 1) (u := .string ⟨q3.toArray⟩) (u' := .bool false) (by omega)
        have B1 := below_set (b := w.heap.size + 1) (j := 1) (u := .bool false) (below_set (b := w.heap.size + 1) (j := 0) (u := .string ⟨q3.toArray⟩) t2 (by omega)) (by omega)
        clear n2 ka ht2 t2 c0' c1' f0' f1'
        generalize ((W.setCell ⟨w.heap.size + 1, 0, none⟩ (.string ⟨q3.toArray⟩)).setCell ⟨w.heap.size + 1, 1, none⟩ (.bool false)) = W1 at *
        have p0 := cell2_0 S1
        have p1 := cell2_1 S1
        have p2 := frozen2 S1 0
        have p3 := frozen2 S1 1
        have p4 := cell2_0 K1
        have p5 := cell2_1 K1
        by_cases hn : 1300 < q3.length
        · have hn' : decide ((1300 : Int) < q3.length) = true := by simp; omega
          have hr := hHr.out
          unfold nextF at hr
          rw [if_pos hn] at hr
          have hHr := Lib.hid hr
          clear hr hn
          go_upto_region 13 with (fail)
          have S2 := set_two (x' := .string ⟨#[]⟩) (y' := .bool true) S1
          have K2 := two_other (b := w.heap.size + 1) (j := 0) (j' := 1) (u := .string ⟨#[]⟩) (u' := .bool true) (by omega) K1
          have X2 := X1.two (b := w.heap.size + 1) (j := 0) (j' := 1) (u := .string ⟨#[]⟩) (u' := .bool true) (by omega)
          have B2 := below_set (b := w.heap.size + 1) (j := 1) (u := .bool true) (below_set (b := w.heap.size + 1) (j := 0) (u := .string ⟨#[]⟩) B1 (by omega)) (by omega)
          clear S1 K1 X1 B1 p0 p1 p2 p3 p4 p5
          generalize ((W1.setCell ⟨w.heap.size + 1, 0, none⟩ (.string ⟨#[]⟩)).setCell ⟨w.heap.size + 1, 1, none⟩ (.bool true)) = W2 at *
          have o0 := cell2_0 S2
          have o1 := cell2_1 S2
          have o2 := frozen2 S2 0
          have o3 := frozen2 S2 1
          have o4 := cell2_0 K2
          have o5 := cell2_1 K2
          have hne : ¬ w.heap.size + 1 = w2.heap.size := by omega
          have hne2 : ¬ w2.heap.size = w.heap.size + 1 := by omega
          have hE := Lib.hid (And.intro S2 (And.intro X2 B2))
          clear S2 K2 X2 B2
          go_region
          all_goals go_wp2
          all_goals
            obtain ⟨S2, X2, B2⟩ := hE.out
            have hr := hHr.out
            subst hr
            refine bodyPost_ret (results_feed rfl _ _ (w.heap.size + 1) _ _ _ _ rfl (set_two S2) Tryd.underlying42 rfl (by kernel_rfl)) rfl ⟨_, rfl, ?_, ?_⟩
            · exact (((X2.two (b := w.heap.size + 1) (by omega)).drew).lower (by omega))
            · exact (below_set (below_set B2 (by omega)) (by omega)).drew
        · have hn' : decide ((1300 : Int) < q3.length) = false := by simp; omega
          have hr := hHr.out
          unfold nextF at hr
          rw [if_neg hn] at hr
          have hHr := Lib.hid hr
          have hne : ¬ w.heap.size + 1 = w2.heap.size := by omega
          have hne2 : ¬ w2.heap.size = w.heap.size + 1 := by omega
          have hE := Lib.hid (And.intro S1 (And.intro X1 B1))
          clear S1 K1 X1 B1 hr hn
          go_wp2
          go_region
          all_goals go_wp2
          all_goals
            obtain ⟨S2, X2, B2⟩ := hE.out
            have hr := hHr.out
            subst hr
            refine bodyPost_ret (results_feed rfl _ _ (w.heap.size + 1) _ _ _ _ rfl (set_two S2) Tryd.underlying42 rfl (by kernel_rfl)) rfl ⟨_, rfl, ?_, ?_⟩
            · exact (((X2.two (b := w.heap.size + 1) (by omega)).drew).lower (by omega))
            · exact (below_set (below_set B2 (by omega)) (by omega)).drew
      | true =>
        go_enter Tryd.func24, Tryd.ntmps24
        go_wp2_with fail
        refine (HC.out _).mono ?_
        rintro e w0 ⟨rfl, b0⟩
        have j1 := heap_below k1 b0
        have j2 := heap_below k2 b0
        have c0 := cell2_0 j1
        have c1 := cell2_1 j1
        have t0 := hbl.trans (b0.mono hbl.size)
        have hz0 : w.heap.size + 2 ≤ w0.heap.size := by have := b0.size; omega
        clear k1 k2 hbl b0
        go_wp2_with fail
        refine (HR.out w0).mono ?_
        rintro e w1 ⟨rfl, b1⟩
        have j1 := heap_below j1 b1
        have j2 := heap_below j2 b1
        have t1 := t0.trans (b1.mono t0.size)
        have hz1 : w.heap.size + 2 ≤ w1.heap.size := by have := b1.size; omega
        have hG1 := Nat.lt_of_lt_of_le hG t1.size
        have hm1 := cell_below t1 hm
        clear b1 t0 c0 c1
        go_wp2_with fail
        refine (HS.out _ w1 rfl (by rw [ByteArray.size_append]; show Z.length + s.length < _; omega) hG1 hm1).mono ?_
        rintro e w2 ⟨v, rfl, ht, b2⟩
        obtain ⟨ad, cp, rfl⟩ := ht.slice
        have a2 := Go.Joins.below_alloc1 w2 (.cells #[.slice ad q1.length cp, .int .i64 (q2 : Int)] 68)
        have q := b2.trans (a2.mono b2.size)
        have n2 := heap_below j2 q
        have ka := World.alloc_heap_new w2 (.cells #[.slice ad q1.length cp, .int .i64 (q2 : Int)] 68)
        have t2 := t1.trans (q.mono t1.size)
        have ht2 := ht.below a2
        have hlt : w.heap.size + 1 < w2.heap.size := by have := b2.size; omega
        have c0' := cell2_0 n2
        have c1' := cell2_1 n2
        have f0' := frozen2 n2 0
        have f1' := frozen2 n2 1
        go_upto_region 10 with (fail)
        generalize (w2.alloc (.cells #[.slice ad q1.length cp, .int .i64 (q2 : Int)] 68)) = W at *
        go_upto_region 11 with (fail)
        have S1 := set_two (x' := .string ⟨q3.toArray⟩) (y' := .bool false) n2
        have K1 := two_other (b := w.heap.size + 1) (j := 0) (j' := 1) (u := .string ⟨q3.toArray⟩) (u' := .bool false) (by omega) ka
        have X1 := ht2.two (b := w.heap.size + 1) (j := 0) (j' := 1) (u := .string ⟨q3.toArray⟩) (u' := .bool false) (by omega)
        have B1 := below_set (b := w.heap.size + 1) (j := 1) (u := .bool false) (below_set (b := w.heap.size + 1) (j := 0) (u := .string ⟨q3.toArray⟩) t2 (by omega)) (by omega)
        clear n2 ka ht2 t2 c0' c1' f0' f1'
        generalize ((W.setCell ⟨w.heap.size + 1, 0, none⟩ (.string ⟨q3.toArray⟩)).setCell ⟨w.heap.size + 1, 1, none⟩ (.bool false)) = W1 at *
        have p0 := cell2_0 S1
        have p1 := cell2_1 S1
        have p2 := frozen2 S1 0
        have p3 := frozen2 S1 1
        have p4 := cell2_0 K1
        have p5 := cell2_1 K1
        by_cases hn : 1300 < q3.length
        · have hn' : decide ((1300 : Int) < q3.length) = true := by simp; omega
          have hr := hHr.out
          unfold nextF at hr
          rw [if_pos hn] at hr
          have hHr := Lib.hid hr
          clear hr hn
          go_upto_region 13 with (fail)
          have S2 := set_two (x' := .string ⟨#[]⟩) (y' := .bool true) S1
          have K2 := two_other (b := w.heap.size + 1) (j := 0) (j' := 1) (u := .string ⟨#[]⟩) (u' := .bool true) (by omega) K1
          have X2 := X1.two (b := w.heap.size + 1) (j := 0) (j' := 1) (u := .string ⟨#[]⟩) (u' := .bool true) (by omega)
          have B2 := below_set (b := w.heap.size + 1) (j := 1) (u := .bool true) (below_set (b := w.heap.size + 1) (j := 0) (u := .string ⟨#[]⟩) B1 (by omega)) (by omega)
          clear S1 K1 X1 B1 p0 p1 p2 p3 p4 p5
          generalize ((W1.setCell ⟨w.heap.size + 1, 0, none⟩ (.string ⟨#[]⟩)).setCell ⟨w.heap.size + 1, 1, none⟩ (.bool true)) = W2 at *
          have o0 := cell2_0 S2
          have o1 := cell2_1 S2
          have o2 := frozen2 S2 0
          have o3 := frozen2 S2 1
          have o4 := cell2_0 K2
          have o5 := cell2_1 K2
          have hne : ¬ w.heap.size + 1 = w2.heap.size := by omega
          have hne2 : ¬ w2.heap.size = w.heap.size + 1 := by omega
          have hE := Lib.hid (And.intro S2 (And.intro X2 B2))
          clear S2 K2 X2 B2
          go_region
          all_goals go_wp2
          all_goals
            obtain ⟨S2, X2, B2⟩ := hE.out
            have hr := hHr.out
            subst hr
            refine bodyPost_ret (results_feed rfl _ _ (w.heap.size + 1) _ _ _ _ rfl (set_two S2) Tryd.underlying42 rfl (by kernel_rfl)) rfl ⟨_, rfl, ?_, ?_⟩
            · exact (((X2.two (b := w.heap.size + 1) (by omega)).drew).lower (by omega))
            · exact (below_set (below_set B2 (by omega)) (by omega)).drew
        · have hn' : decide ((1300 : Int) < q3.length) = false := by simp; omega
          have hr := hHr.out
          unfold nextF at hr
          rw [if_neg hn] at hr
          have hHr := Lib.hid hr
          have hne : ¬ w.heap.size + 1 = w2.heap.size := by omega
          have hne2 : ¬ w2.heap.size = w.heap.size + 1 := by omega
          have hE := Lib.hid (And.intro S1 (And.intro X1 B1))
          clear S1 K1 X1 B1 hr hn
          go_wp2
          go_region
          all_goals go_wp2
          all_goals
            obtain ⟨S2, X2, B2⟩ := hE.out
            have hr := hHr.out
            subst hr
            refine bodyPost_ret (results_feed rfl _ _ (w.heap.size + 1) _ _ _ _ rfl (set_two S2) Tryd.underlying42 rfl (by kernel_rfl)) rfl ⟨_, rfl, ?_, ?_⟩
            · exact (((X2.two (b := w.heap.size + 1) (by omega)).drew).lower (by omega))
            · exact (below_set (below_set B2 (by omega)) (by omega)).drew
  · have h0' : ((checkF (h, o) : Int) == 0) = false := by simp; omega
    rw [if_pos h0] at hr
    subst hr
    generalize checkF (h, o) = c at *
    clear h0
    go_enter Tryd.func24, Tryd.ntmps24
    go_wp2_with fail
    refine (HC.out _).mono ?_
    rintro e w1 ⟨rfl, b1⟩
    have j2 := heap_below k2 b1
    have c0 := cell2_0 j2
    have c1 := cell2_1 j2
    have f0 := frozen2 j2 0
    have f1 := frozen2 j2 1
    have t1 := hbl.trans (b1.mono hbl.size)
    clear k1 k2 hsz hbl b1
    go_wp2
    refine bodyPost_ret (results_feed rfl _ _ (w.heap.size + 1) _ _ _ _ rfl (set_two j2) Tryd.underlying42 rfl (by kernel_rfl)) rfl ⟨_, rfl, Txt.nil _ _, below_set (below_set t1 (by omega)) (by omega)⟩
end Go.Proofs.YtcpahelmaejjeaaDoor
