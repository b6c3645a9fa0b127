/- The walk of the statements' examples, chapter 12 (journal). -/
import Derived.Test.YthhghggaoljcbaaDoorJournalR
import Derived.Test.YthhghggaoljcbaaDoorJournalI
import Derived.Test.YthhghggaoljcbaaDoorDiskI
namespace Go.Proofs.YthhghggaoljcbaaDoor
open Go.RowKit Disk11 Journal12 Sum2

theorem ret_one {B : Nat} {w w' : World} {e : Ending} {a : Value} (a' : Value) (ha : a = a') (h : e = .returned a ∧ Below B w w') : e = .returned a' ∧ Below B w w' := by subst ha; exact h
theorem ret_two {B : Nat} {w w' : World} {e : Ending} {a b : Value} (a' b' : Value) (ha : a = a') (hb : b = b') (h : e = .returned (.tuple #[a, b]) ∧ Below B w w') : e = .returned (.tuple #[a', b']) ∧ Below B w w' := by subst ha hb; exact h
theorem ret_twoW {w w' : World} {e : Ending} {a b : Value} (a' b' : Value) (ha : a = a') (hb : b = b') (h : e = .returned (.tuple #[a, b]) ∧ w' = w) : e = .returned (.tuple #[a', b']) ∧ w' = w := by subst ha hb; exact h
theorem as_replay {B : Nat} {w w' : World} {e : Ending} {r : List (List UInt8) × Nat × Nat} {l : List (List UInt8)} {z k nl : Nat} (zi n : Int) (hr : r = (l, z, k)) (hz : (z : Int) = zi) (hk : (k : Int) = n) (hl : l.length = nl)
    (h : ∃ v', e = .returned (.tuple #[v', .int .i64 (r.2.1 : Nat), .int .i64 (r.2.2 : Nat)]) ∧ Txt w' B v' r.1 ∧ Below B w w') :
    ∃ ad c, e = .returned (.tuple #[.slice ad nl c, .int .i64 zi, .int .i64 n]) ∧ Row w' 1 (.slice ad nl c) nl (strVals l) ∧ Below B w w' := by
  subst hr hz hk hl
  obtain ⟨v', rfl, ht, hb⟩ := h
  obtain ⟨ad, c, rfl⟩ := ht.slice
  exact ⟨ad, c, rfl, Row.of_own ht, hb⟩
theorem as_places {B : Nat} {w w' : World} {e : Ending} {r : List Nat × Nat} {l : List Nat} {k nl : Nat} (n : Int) (hr : r = (l, k)) (hk : (k : Int) = n) (hl : l.length = nl)
    (h : ∃ v', e = .returned (.tuple #[v', .int .i64 (r.2 : Nat)]) ∧ Ints w' B v' r.1 ∧ Below B w w') :
    ∃ ad c, e = .returned (.tuple #[.slice ad nl c, .int .i64 n]) ∧ Row w' 1 (.slice ad nl c) nl (intVals l) ∧ Below B w w' := by
  subst hr hk hl
  obtain ⟨v', rfl, ht, hb⟩ := h
  obtain ⟨ad, c, rfl⟩ := ht.slice
  exact ⟨ad, c, rfl, Row.of_own ht, hb⟩
theorem as_readT {B : Nat} {w w' : World} {e : Ending} {r : Bool} (hr : r = true) (h : e = .returned (.bool r) ∧ Below B w w') : e = .returned (.bool true) ∧ Below B w w' := by
  subst hr; exact h
theorem row_str2 (W : World) (x y : List UInt8) : Row (W.alloc (.cells #[.string ⟨x.toArray⟩, .string ⟨y.toArray⟩] 9)) 1 (.slice (some ⟨W.heap.size, 0, none⟩) 2 2) 2 (strVals [x, y]) := by
  have k := World.alloc_heap_new W (.cells #[.string ⟨x.toArray⟩, .string ⟨y.toArray⟩] 9)
  refine ⟨rfl, _, _, rfl, Nat.le_refl _, fun j v hj => ⟨_, rfl, ?_⟩⟩
  rw [addr_add]
  match j, hj with
  | 0, hj => simp [strVals] at hj; subst hj; exact cell2_0 k
  | 1, hj => simp [strVals] at hj; subst hj; exact cell2_1 k
  | j + 2, hj => simp [strVals] at hj
theorem row_str1 (W : World) (x : List UInt8) : Row (W.alloc (.cells #[.string ⟨x.toArray⟩] 9)) 1 (.slice (some ⟨W.heap.size, 0, none⟩) 1 1) 1 (strVals [x]) := by
  have k := World.alloc_heap_new W (.cells #[.string ⟨x.toArray⟩] 9)
  refine ⟨rfl, _, _, rfl, Nat.le_refl _, fun j v hj => ⟨_, rfl, ?_⟩⟩
  rw [addr_add]
  match j, hj with
  | 0, hj => simp [strVals] at hj; subst hj; exact cell1 k
  | j + 1, hj => simp [strVals] at hj

set_option maxHeartbeats 4000000 in
set_option maxRecDepth 100000 in
theorem awake_any (w : World) (ht : Tab w) :
    Calls Tryd.prog 11 #[] w fun e w' => e = .returned (.bool true) ∧ Below w.heap.size w w' := by
  have HS := Lib.hid (fun W t => shown_any W t)
  have HR := Lib.hid (fun W => lregion_any W)
  have HP := Lib.hid (fun v W h t => (Replay_any shownD v 1 2 W h t).mono (fun _ _ => as_replay (nl := 2) 26 0 shown_replay rfl rfl rfl))
  have HM := Lib.hid (fun W => (Room_any 1 2 0 W).mono (fun _ _ => ret_two (.int .i64 118) (.int .i64 0) (by rw [shown_room]) (by rw [shown_room]; rfl)))
  have HZ := Lib.hid (fun W => (Size_any helloB W (by decide)).mono (fun _ _ => ret_twoW (.int .i64 15) (.int .i64 0) (by rw [size_hello]; rfl) (by rw [size_hello]; rfl)))
  have HC := Lib.hid (fun v W h => (Clean_any shownD v 1 2 26 W h).mono (fun _ _ => ret_two (.bool true) (.int .i64 0) (by rw [shown_clean]) (by rw [shown_clean]; rfl)))
  have HK := Lib.hid (fun v W h => (JCheck_any shownD v 1 2 W h).mono (fun _ _ => ret_one (.int .i64 0) (by rw [shown_chk]; rfl)))
  have HST := Lib.hid (fun v1 v2 W r1 r2 => (SameTexts_any [helloB, xB] [helloB, xB] v1 v2 W r1 r2 (by decide)).mono (fun _ _ => as_readT (by decide)))
  have hT := Lib.hid ht
  clear ht
  go_enter Tryd.func11, Tryd.ntmps11
  go_wp2_with fail
  refine (HS.out _ hT.out).mono ?_
  rintro e w1 ⟨ab, cb, ac, cc, rfl, d1, b1⟩
  have a1 := Go.Joins.below_alloc1 w1 (.cells #[.slice ab 3 cb, .slice ac 2 cc] 25)
  have n1 := World.alloc_heap_new w1 (.cells #[.slice ab 3 cb, .slice ac 2 cc] 25)
  have t1 := b1.trans (a1.mono b1.size)
  have D1 := Lib.hid (d1.below a1)
  have c0 := cell2_0 n1
  have c1 := cell2_1 n1
  have B1 := Lib.hid t1.drew
  have T1 := Lib.hid t1
  have N1 := Lib.hid n1
  clear b1 d1 a1 n1 t1
  go_upto_region 4 with (fail)
  generalize hW1 : (w1.alloc (.cells #[.slice ab 3 cb, .slice ac 2 cc] 25)) = W1 at *
  generalize w1.heap.size = g at *
  clear hW1
  go_region_held3 (fun V => V.cell? ⟨g, 0, none⟩ = some (.slice ab 3 cb) ∧ V.cell? ⟨g, 1, none⟩ = some (.slice ac 2 cc))
    (first | exact ⟨c0, c1⟩ | exact ⟨o0, o1⟩ | exact ⟨p0, p1⟩ | go_keep)
    (first
      | (go_at_call 33; refine (HR.out _).mono ?_; rintro e w6 ⟨rfl, b6⟩
         have o0 := cell_below b6 (show W1.drew.cell? _ = _ from c0); have o1 := cell_below b6 (show W1.drew.cell? _ = _ from c1)
         have B6 := Lib.hid (B1.out.trans (b6.mono B1.out.size))
         have D6 := Lib.hid (D1.out.drew.below b6)
         have N6 := Lib.hid (heap_below (show W1.drew.heap[g]? = _ from N1.out) b6))
      | (go_at_call 20; refine (HP.out _ _ D6.out (hT.out.below B6.out)).mono ?_; rintro e w7 ⟨ad, lc, rfl, r7, b7⟩
         have p0 := cell_below b7 o0; have p1 := cell_below b7 o1
         have B7 := Lib.hid (B6.out.trans (b7.mono B6.out.size))
         have D7 := Lib.hid (D6.out.below b7)
         have N7 := Lib.hid (heap_below N6.out b7)
         have R7 := Lib.hid r7))
  clear c0 c1 o0 o1 p0 p1 b6 b7 r7 B6 D6 N6 B1 T1 D1 N1
  go_wp2_with fail
  refine (HR.out _).mono ?_
  rintro e w8 ⟨rfl, b8⟩
  go_wp2_with fail
  refine (HM.out _).mono ?_
  rintro e w9 ⟨rfl, b9⟩
  have q9 := andThen b8 b9
  go_wp2_with fail
  refine (HZ.out _).mono ?_
  rintro e w10 ⟨rfl, rfl⟩
  have B9 := B7.out.trans (q9.mono B7.out.size)
  have D9 := D7.out.below q9
  have N9 := heap_below N7.out q9
  have R9 := Lib.hid (R7.out.below q9)
  have c0 := cell2_0 N9
  have c1 := cell2_1 N9
  have B1 := Lib.hid B9.drew
  have D1 := Lib.hid D9
  have N1 := Lib.hid N9
  clear b8 b9 q9 B7 D7 N7 R7 B9 D9 N9
  go_wp2_with fail
  go_region_held3 (fun V => V.cell? ⟨g, 0, none⟩ = some (.slice ab 3 cb) ∧ V.cell? ⟨g, 1, none⟩ = some (.slice ac 2 cc))
    (first | exact ⟨c0, c1⟩ | exact ⟨o0, o1⟩ | exact ⟨p0, p1⟩ | go_keep)
    (first
      | (go_at_call 33; refine (HR.out _).mono ?_; rintro e w6 ⟨rfl, b6⟩
         have o0 := cell_below b6 (show w10.drew.cell? _ = _ from c0); have o1 := cell_below b6 (show w10.drew.cell? _ = _ from c1)
         have B6 := Lib.hid (B1.out.trans (b6.mono B1.out.size))
         have D6 := Lib.hid (D1.out.drew.below b6)
         have R6 := Lib.hid (R9.out.drew.below b6)
         have N6 := Lib.hid (heap_below (show w10.drew.heap[g]? = _ from N1.out) b6))
      | (go_at_call 26; refine (HC.out _ _ D6.out).mono ?_; rintro e w7 ⟨rfl, b7⟩
         have p0 := cell_below b7 o0; have p1 := cell_below b7 o1
         have B7 := Lib.hid (B6.out.trans (b7.mono B6.out.size))
         have D7 := Lib.hid (D6.out.below b7)
         have R7 := Lib.hid (R6.out.below b7)
         have N7 := Lib.hid (heap_below N6.out b7)))
  clear c0 c1 o0 o1 p0 p1 b6 b7 B6 D6 N6 B1 D1 N1 R6 R9
  have c0 := cell2_0 N7.out
  have c1 := cell2_1 N7.out
  have hal := Lib.hid (Go.Joins.below_alloc1 w7 (.cells #[.string ⟨helloB.toArray⟩, .string ⟨xB.toArray⟩] 9)).drew
  have R8 := Lib.hid (R7.out.below hal.out)
  have L8 := Lib.hid (row_str2 w7 helloB xB).drew
  go_upto_region 8 with (fail)
  have m0 := World.new_ne _ _ c0
  have m1 := World.new_ne _ _ c1
  go_region_held3 (fun V => V.cell? ⟨g, 0, none⟩ = some (.slice ab 3 cb) ∧ V.cell? ⟨g, 1, none⟩ = some (.slice ac 2 cc))
    (first | exact ⟨c0, c1⟩ | exact ⟨o0, o1⟩ | exact ⟨p0, p1⟩ | exact ⟨q0, q1⟩ | go_keep)
    (first
      | (go_at_call 22; refine (HST.out _ _ _ R8.out L8.out).mono ?_; rintro e w11 ⟨rfl, b11⟩
         have b12 := hal.out.trans (b11.mono hal.out.size)
         have o0 := cell_below b12 c0; have o1 := cell_below b12 c1
         have B11 := Lib.hid (B7.out.trans (b12.mono B7.out.size))
         have D11 := Lib.hid (D7.out.below b12))
      | (go_at_call 33; refine (HR.out _).mono ?_; rintro e w13 ⟨rfl, b13⟩
         have p0 := cell_below b13 o0; have p1 := cell_below b13 o1
         have B13 := Lib.hid (B11.out.trans (b13.mono B11.out.size))
         have D13 := Lib.hid (D11.out.below b13))
      | (go_at_call 18; refine (HK.out _ _ D13.out).mono ?_; rintro e w14 ⟨rfl, b14⟩
         have q0 := cell_below b14 p0; have q1 := cell_below b14 p1
         have B14 := Lib.hid (B13.out.trans (b14.mono B13.out.size))))
  all_goals
    go_wp2
    go_ret
    exact ⟨rfl, B14.out⟩
end Go.Proofs.YthhghggaoljcbaaDoor
