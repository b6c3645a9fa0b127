/- The walk of the reference's Feed, chapter 10. -/
import Derived.Test.YtcpahelmaejjeaaDoorFeedC
namespace Go.Proofs.YtcpahelmaejjeaaDoor
open Go.RowKit Go.Shelf Stuff10

theorem app_x (k : Nat) : (⟨(List.replicate k (120 : UInt8)).toArray⟩ : ByteArray) ++ ⟨#[120]⟩ = ⟨(List.replicate (k + 1) (120 : UInt8)).toArray⟩ := by
  apply ByteArray.ext
  rw [ByteArray.data_append, List.replicate_succ']
  apply Array.toList_inj.1
  simp

set_option maxHeartbeats 4000000 in
set_option maxRecDepth 100000 in
theorem RFeed_any (h : List UInt8) (o : Bool) (s : List UInt8) (w : World) :
    Calls Tryd.prog 25 #[.agg #[.string ⟨h.toArray⟩, .bool o], .string ⟨s.toArray⟩] w (FeedPost w (feedF (h, o) s)) := by
  obtain ⟨r, hr⟩ : ∃ r, r = feedF (h, o) s := ⟨_, rfl⟩
  rw [← hr]
  unfold feedF at hr
  have HC := Lib.hid (fun W => RCheckS_any h o W)
  obtain ⟨k1, k2, hsz, hbl⟩ := alloc2 w (.cells #[.string ⟨h.toArray⟩, .bool o] 42) (.cells #[.string ⟨#[]⟩, .bool false] 42)
  by_cases h0 : checkF (h, o) = 0
  · rw [if_neg (by rw [h0]; simp)] at hr
    rw [h0] at HC
    by_cases h1 : 20000 < s.length
    · have h1' : decide ((20000 : Int) < s.length) = true := by simp; omega
      rw [if_pos h1] at hr
      subst hr
      clear h0 h1
      go_enter Tryd.func25, Tryd.ntmps25
      go_wp2_with fail
      refine (HC.out _).mono ?_
      rintro e w1 ⟨rfl, b1⟩
      have j2 := heap_below k2 b1
      have c0 := cell2_0 j2
      have c1 := cell2_1 j2
      have f0 := frozen2 j2 0
      have f1 := frozen2 j2 1
      have t1 := hbl.trans (b1.mono hbl.size)
      clear k1 k2 hsz hbl b1
      go_wp2
      refine bodyPost_ret (results_feed rfl _ _ (w.heap.size + 1) _ _ _ _ rfl (set_two j2) Tryd.underlying42 rfl (by kernel_rfl)) rfl ⟨_, rfl, Txt.nil _ _, below_set (below_set t1 (by omega)) (by omega)⟩
    · have h1' : decide ((20000 : Int) < s.length) = false := by simp; omega
      rw [if_neg h1] at hr
      have hhl : h.length ≤ 1300 := by
        rcases Nat.lt_or_ge 1300 h.length with g | g
        · rw [checkF_long g] at h0; cases h0
        · exact g
      rw [feedS_any (h, o) s 1 120 (by decide) (by decide)] at hr
      have hho : o = true → h = [] := by
        rintro rfl
        cases h with
        | nil => rfl
        | cons c h => rw [checkF_over (h := c :: h) (o := true) rfl] at h0; cases h0
      obtain ⟨Z, hZ⟩ : ∃ Z, Z = List.replicate 1301 (120 : UInt8) := ⟨_, rfl⟩
      have hZl : Z.length = 1301 := by rw [hZ, List.length_replicate]
      rw [← hZ] at hr
      unfold feedS at hr
      obtain ⟨q, hq⟩ : ∃ q, q = splitS (heldF Z (h, o) ++ s) := ⟨_, rfl⟩
      have HS := Lib.hid (fun (x : ByteArray) W (hx : x.data.toList = heldF Z (h, o) ++ s) (hl : x.size ≤ 4398046511000) => by
        have := rparts_any x hl W
        rw [hx, ← hq] at this
        exact this)
      rw [← hq] at hr
      obtain ⟨⟨q1, q2⟩, q3⟩ := q
      dsimp only at hr HS
      have hHZ := Lib.hid hZ
      clear hq hZ h0
      have hHr := Lib.hid hr
      clear hr
      cases o with
      | false =>
        clear hho
        go_enter Tryd.func25, Tryd.ntmps25
        go_wp2_with fail
        refine (HC.out _).mono ?_
        rintro e w1 ⟨rfl, b1⟩
        have j1 := heap_below k1 b1
        have j2 := heap_below k2 b1
        have c0 := cell2_0 j1
        have c1 := cell2_1 j1
        have t1 := hbl.trans (b1.mono hbl.size)
        have hz1 : w.heap.size + 2 ≤ w1.heap.size := by have := b1.size; omega
        clear k1 k2 hbl b1
        go_wp2
        go_loopw [9] (fun x wr => x = .string ⟨h.toArray⟩ ∧ wr = w1) (fun _ _ => 0)
        case atStart => exact ⟨rfl, rfl⟩
        case round =>
          obtain ⟨rfl, rfl⟩ := hrel
          go_wp2_with fail
          refine (HS.out _ _ rfl (by rw [ByteArray.size_append]; show h.length + s.length ≤ _; omega)).mono ?_
          rintro e w2 ⟨v, rfl, ht, b2⟩
          obtain ⟨ad, cp, rfl⟩ := ht.slice
          have n2 := heap_below j2 b2
          have t2 := t1.trans (b2.mono t1.size)
          have c0' := cell2_0 n2
          have c1' := cell2_1 n2
          have f0' := frozen2 n2 0
          have f1' := frozen2 n2 1
          have hz2 : w.heap.size + 2 ≤ w2.heap.size := Nat.le_trans hz1 b2.size
          have hT := Lib.hid (And.intro n2 (And.intro ht t2))
          clear n2 ht t2 b2 j1 j2 c0 c1
          by_cases hn : 1300 < q3.length
          · have hn' : decide ((1300 : Int) < q3.length) = true := by simp; omega
            have hr := hHr.out
            unfold nextF at hr
            rw [if_pos hn] at hr
            have hHr := Lib.hid hr
            clear hr hn
            go_wp2
            obtain ⟨n2, ht, t2⟩ := hT.out
            have hr := hHr.out
            subst hr
            refine bodyPost_ret (results_feed rfl _ _ (w.heap.size + 1) _ _ _ _ rfl (set_two n2) Tryd.underlying42 rfl (by kernel_rfl)) rfl ⟨_, rfl, ?_, ?_⟩
            · exact ((ht.two (b := w.heap.size + 1) (by omega)).lower (by omega))
            · exact below_set (below_set t2 (by omega)) (by omega)
          · have hn' : decide ((1300 : Int) < q3.length) = false := by simp; omega
            have hr := hHr.out
            unfold nextF at hr
            rw [if_neg hn] at hr
            have hHr := Lib.hid hr
            clear hr hn
            go_wp2
            obtain ⟨n2, ht, t2⟩ := hT.out
            have hr := hHr.out
            subst hr
            refine bodyPost_ret (results_feed rfl _ _ (w.heap.size + 1) _ _ _ _ rfl (set_two n2) Tryd.underlying42 rfl (by kernel_rfl)) rfl ⟨_, rfl, ?_, ?_⟩
            · exact ((ht.two (b := w.heap.size + 1) (by omega)).lower (by omega))
            · exact below_set (below_set t2 (by omega)) (by omega)
      | true =>
        obtain rfl := hho rfl
        clear hho
        go_enter Tryd.func25, Tryd.ntmps25
        go_wp2_with fail
        refine (HC.out _).mono ?_
        rintro e w1 ⟨rfl, b1⟩
        have j1 := heap_below k1 b1
        have j2 := heap_below k2 b1
        have c0 := cell2_0 j1
        have c1 := cell2_1 j1
        have t1 := hbl.trans (b1.mono hbl.size)
        have hz1 : w.heap.size + 2 ≤ w1.heap.size := by have := b1.size; omega
        clear k1 k2 hbl b1
        go_wp2
        go_loopw [9] (fun x wr => ∃ (k : Nat) (X : List UInt8), x = .string ⟨X.toArray⟩ ∧ Hid (X = List.replicate k (120 : UInt8)) ∧ k ≤ 1301 ∧ wr = w1) (fun x _ => 1301 - (match x with | .string b => b.size | _ => 0))
        case atStart => exact ⟨0, [], rfl, Lib.hid rfl, by omega, rfl⟩
        case round =>
          obtain ⟨k, X, rfl, hHX, hk, rfl⟩ := hrel
          have hXl : X.length = k := by rw [hHX.out, List.length_replicate]
          have hXle : X.length ≤ 1301 := by omega
          have hap := app_x k
          rw [← hHX.out] at hap
          by_cases hlt : k ≤ 1300
          · have hlt' : decide ((X.length : Int) ≤ 1300) = true := by simp; omega
            obtain ⟨Y, hY⟩ : ∃ Y, Y = List.replicate (k + 1) (120 : UInt8) := ⟨_, rfl⟩
            rw [← hY] at hap
            have hHY := Lib.hid hY
            have hYl := Lib.hid (show Y.length = k + 1 by rw [hY, List.length_replicate])
            have hHXl := Lib.hid hXl
            clear hY hXl
            go_wp2
            refine ⟨⟨k + 1, Y, rfl, hHY, by omega, by first | rfl | trivial⟩, ?_⟩
            show 1301 - Y.length < 1301 - X.length
            rw [hYl.out, hHXl.out]; omega
          · have hlt' : decide ((X.length : Int) ≤ 1300) = false := by simp; omega
            have hxz : X = Z := by rw [hHX.out, hHZ.out, show k = 1301 by omega]
            have HS2 := Lib.hid (HS.out (⟨X.toArray⟩ ++ ⟨s.toArray⟩) wr (by rw [hxz]; rfl) (by rw [ByteArray.size_append]; show X.length + s.length ≤ _; omega))
            clear hap hXl hxz hHX
            go_wp2_with fail
            refine HS2.out.mono ?_
            rintro e w2 ⟨v, rfl, ht, b2⟩
            obtain ⟨ad, cp, rfl⟩ := ht.slice
            have n2 := heap_below j2 b2
            have t2 := t1.trans (b2.mono t1.size)
            have c0' := cell2_0 n2
            have c1' := cell2_1 n2
            have f0' := frozen2 n2 0
            have f1' := frozen2 n2 1
            have hz2 : w.heap.size + 2 ≤ w2.heap.size := Nat.le_trans hz1 b2.size
            have hT := Lib.hid (And.intro n2 (And.intro ht t2))
            clear n2 ht t2 b2 j1 j2 c0 c1
            by_cases hn : 1300 < q3.length
            · have hn' : decide ((1300 : Int) < q3.length) = true := by simp; omega
              have hr := hHr.out
              unfold nextF at hr
              rw [if_pos hn] at hr
              have hHr := Lib.hid hr
              clear hr hn
              go_wp2
              obtain ⟨n2, ht, t2⟩ := hT.out
              have hr := hHr.out
              subst hr
              refine bodyPost_ret (results_feed rfl _ _ (w.heap.size + 1) _ _ _ _ rfl (set_two n2) Tryd.underlying42 rfl (by kernel_rfl)) rfl ⟨_, rfl, ?_, ?_⟩
              · exact ((ht.two (b := w.heap.size + 1) (by omega)).lower (by omega))
              · exact below_set (below_set t2 (by omega)) (by omega)
            · have hn' : decide ((1300 : Int) < q3.length) = false := by simp; omega
              have hr := hHr.out
              unfold nextF at hr
              rw [if_neg hn] at hr
              have hHr := Lib.hid hr
              clear hr hn
              go_wp2
              obtain ⟨n2, ht, t2⟩ := hT.out
              have hr := hHr.out
              subst hr
              refine bodyPost_ret (results_feed rfl _ _ (w.heap.size + 1) _ _ _ _ rfl (set_two n2) Tryd.underlying42 rfl (by kernel_rfl)) rfl ⟨_, rfl, ?_, ?_⟩
              · exact ((ht.two (b := w.heap.size + 1) (by omega)).lower (by omega))
              · exact below_set (below_set t2 (by omega)) (by omega)
  · have h0' : ((checkF (h, o) : Int) == 0) = false := by simp; omega
    rw [if_pos h0] at hr
    subst hr
    generalize checkF (h, o) = c at *
    clear h0
    go_enter Tryd.func25, Tryd.ntmps25
    go_wp2_with fail
    refine (HC.out _).mono ?_
    rintro e w1 ⟨rfl, b1⟩
    have j2 := heap_below k2 b1
    have c0 := cell2_0 j2
    have c1 := cell2_1 j2
    have f0 := frozen2 j2 0
    have f1 := frozen2 j2 1
    have t1 := hbl.trans (b1.mono hbl.size)
    clear k1 k2 hsz hbl b1
    go_wp2
    refine bodyPost_ret (results_feed rfl _ _ (w.heap.size + 1) _ _ _ _ rfl (set_two j2) Tryd.underlying42 rfl (by kernel_rfl)) rfl ⟨_, rfl, Txt.nil _ _, below_set (below_set t1 (by omega)) (by omega)⟩
end Go.Proofs.YtcpahelmaejjeaaDoor
