/- The walks of the reference's walk, Replay and Places, chapter 12 (journal). -/
import Derived.Test.YthhghggaoljcbaaDoorJournalL
import Derived.Test.YthhghggaoljcbaaDoorJournalH
import Derived.Test.YthhghggaoljcbaaDoorDiskApart
namespace Go.Proofs.YthhghggaoljcbaaDoor
open Go.RowKit Disk11 Journal12 Sum2

theorem offsJ_snoc : ∀ (a : Nat) (l : List (List UInt8)) (x : List UInt8), offsJ a (l ++ [x]) = offsJ a l ++ [a + sizeJ l]
  | a, [], x => rfl
  | a, y :: l, x => by
    rw [List.cons_append]; unfold offsJ; rw [offsJ_snoc, sizeJ_cons, List.cons_append]; congr 3; omega

set_option maxHeartbeats 8000000 in
set_option maxRecDepth 100000 in
theorem Rwalk_any (d : Dev) (v : Value) (f b : Nat) (w : World) (h : DiskIs w d v) (hg : Disk11.Good d) (hf : f + b ≤ d.1.length) :
    Calls Tryd.prog 60 #[v, .agg #[.int .i64 (f : Int), .int .i64 (b : Int)]] w fun e w' => ∃ va vb, e = .returned (.tuple #[va, vb, .int .i64 (sizeJ (recsJ (regJ d ((f : Int), (b : Int)))) : Nat)]) ∧
      Txt w' w.heap.size va (recsJ (regJ d ((f : Int), (b : Int)))) ∧ Ints w' w.heap.size vb (offsJ 0 (recsJ (regJ d ((f : Int), (b : Int))))) ∧ Below w.heap.size w w' := by
  have hl := hg.2.1
  have hrl := regJ_length hg hf
  have HR := Lib.hid (fun W h => Rread_any d v f b 0 (64 * b) W h hg hf (by omega))
  rw [List.drop_zero, List.take_of_length_le (by omega), show ((64 * b : Nat) : Int) = 64 * (b : Int) by omega, show ((0 : Nat) : Int) = 0 from rfl] at HR
  have HL := Lib.hid (fun W => Rlength_any (f : Int) (b : Int) W (by omega) (by omega))
  have hD := Lib.hid h
  obtain ⟨S, hS⟩ : ∃ S, S = regJ d ((f : Int), (b : Int)) := ⟨_, rfl⟩
  rw [← hS] at HR hrl ⊢
  have hSl : S.length ≤ 262144 := by omega
  obtain ⟨L, hL⟩ : ∃ L, L = recsJ S := ⟨_, rfl⟩
  rw [← hL]
  have hLl : L.length ≤ 262144 := by
    have h1 := size_ge L
    have h2 := recs_size S
    rw [← hL] at h2; omega
  have HX := Lib.hid (fun a W h => Rrecord_any S a W h hSl)
  have hL' := Lib.hid (show L = [] ++ walkJ (S.length + 1) (S.drop 0) from hL)
  clear hS hg hL hrl
  obtain ⟨ab, cb, ac, cc, rfl, _, _, hbc, _⟩ := h.form
  clear h hbc
  obtain ⟨k1, k2, hsz, hbl⟩ := alloc2 w (.cells #[.slice ab d.1.length cb, .slice ac d.2.length cc] 25) (.cells #[.int .i64 (f : Int), .int .i64 (b : Int)] 27)
  have c0 := cell2_0 k1
  have c1 := cell2_1 k1
  have r0 := cell2_0 k2
  have r1 := cell2_1 k2
  have B := Lib.hid hbl.drew
  clear k1 k2 hsz hbl
  go_enter Tryd.func60, Tryd.ntmps60
  go_wp2_with fail
  go_region_held3 (fun V => V.cell? ⟨w.heap.size, 0, none⟩ = some (.slice ab d.1.length cb) ∧ V.cell? ⟨w.heap.size, 1, none⟩ = some (.slice ac d.2.length cc) ∧ V.cell? ⟨w.heap.size + 1, 0, none⟩ = some (.int .i64 (f : Int)) ∧ V.cell? ⟨w.heap.size + 1, 1, none⟩ = some (.int .i64 (b : Int)))
    (first | exact ⟨c0, c1, r0, r1⟩ | exact ⟨o0, o1, o2, o3⟩ | exact ⟨p0, p1, p2, p3⟩ | go_keep)
    (first
      | (go_at_call 52; refine (HL.out _).mono ?_; rintro e w5 ⟨rfl, b5⟩
         have o0 := cell_below b5 c0; have o1 := cell_below b5 c1; have o2 := cell_below b5 r0; have o3 := cell_below b5 r1
         have B5 := Lib.hid (B.out.trans (b5.mono B.out.size)))
      | (go_at_call 54; refine (HR.out _ (hD.out.below B5.out)).mono ?_; rintro e w6 ⟨rfl, b6⟩
         have p0 := cell_below b6 o0; have p1 := cell_below b6 o1; have p2 := cell_below b6 o2; have p3 := cell_below b6 o3
         have B6 := Lib.hid (B5.out.trans (b6.mono B5.out.size))))
  have hb6 := B6.out
  clear c0 c1 r0 r1 o0 o1 o2 o3 p0 p1 p2 p3 B B5 b5 b6 HL HR
  go_wp2
  go_loopw [8, 9, 10] (fun va vb i wr => ∃ (pre : List (List UInt8)) (a f : Nat), i = .int .i64 (a : Int) ∧ Hid (L = pre ++ walkJ (f + 1) (S.drop a)) ∧ a ≤ S.length ∧ S.length - a ≤ f ∧ Hid (a = sizeJ pre) ∧ Txt wr w.heap.size va pre ∧ Ints wr w.heap.size vb (offsJ 0 pre) ∧ Below w.heap.size w wr) (fun _ _ i _ => S.length - (intOf i).toNat)
  case atStart => exact ⟨[], 0, S.length, rfl, hL', Nat.zero_le _, Nat.le_refl _, Lib.hid rfl, Txt.nil _ _, Ints.nil _ _, hb6⟩
  case round =>
    obtain ⟨pre, a, f, rfl, hLp, ha, hfa, hap, htx, hin, hblw⟩ := hrel
    have hpl : pre.length ≤ 262144 := by
      have := congrArg List.length hLp.out
      rw [List.length_append] at this; omega
    have hpl2 : (offsJ 0 pre).length ≤ 262144 := by rw [offsJ_length]; exact hpl
    go_wp2_with fail
    refine (HX.out a _ ha).mono ?_
    rintro e w7 ⟨hp, b7⟩
    unfold RecPost at hp
    have hb7 := hblw.trans (b7.mono hblw.size)
    have t7 := htx.below b7
    have n7 := hin.below b7
    cases hrec : recJ (S.drop a) with
    | none =>
      rw [hrec] at hp
      obtain rfl := hp
      have hLe : L = pre := by rw [hLp.out, walkJ_none f hrec, List.append_nil]
      go_wp2
      have hs : sizeJ L = a := by rw [hLe, ← hap.out]
      refine bodyPost_ret (results_tmp3' rfl _ _ _) rfl ?_
      rw [hs, hLe]
      exact ⟨_, _, rfl, t7, n7, hb7⟩
    | some x =>
      rw [hrec] at hp
      obtain rfl := hp
      have hxs := recJ_some hrec
      have hxl : a + (x.length + 10) ≤ S.length := by
        have := congrArg List.length hxs.1
        rw [List.length_append, formJ_length, List.length_drop] at this; omega
      have hLn := hLp.out
      rw [walkJ_some f hrec] at hLn
      obtain ⟨f', rfl⟩ : ∃ f', f = f' + 1 := ⟨f - 1, by omega⟩
      have hL2 := Lib.hid (show L = (pre ++ [x]) ++ walkJ (f' + 1) (S.drop (a + (x.length + 10))) by rw [hLn, List.drop_drop]; simp)
      have ha2 := Lib.hid (show a + (x.length + 10) = sizeJ (pre ++ [x]) by rw [sizeJ_snoc, ← hap.out])
      have ho2 := Lib.hid (show offsJ 0 pre ++ [a] = offsJ 0 (pre ++ [x]) by rw [offsJ_snoc, Nat.zero_add, ← hap.out])
      clear hxs hLn hrec hLp hap htx hin hblw b7
      go_wp2_with (first
        | (at_builtin; refine app_str (n := x) rfl rfl w.heap.size rfl t7 (by simp [go_sem]) (by omega) hb7.size ?_; intro g cap w8 t8 b8 hg8 hgr8
           have n8 := own_two n7 t7 hgr8 (by decide)
           have hb8 := hb7.trans b8)
        | (at_builtin; refine app_int (n := a) rfl rfl w.heap.size rfl n8 (by simp [go_sem]) (by omega) hb8.size ?_; intro g' cap' w9 n9 b9 hg9 hgr9
           have t9 := own_two t8 n8 hgr9 (by decide)
           have hb9 := hb8.trans b9))
      rw [ho2.out] at n9
      exact ⟨⟨pre ++ [x], a + (x.length + 10), f', congrArg (Value.int .i64) (by omega), hL2, hxl, by omega, ha2, t9, n9, hb9⟩, by simp [intOf]; omega⟩

theorem sizeJ_le {S : List UInt8} (h : S.length ≤ 262144) : sizeJ (recsJ S) ≤ 262144 := Nat.le_trans (recs_size S) h
set_option maxHeartbeats 4000000 in
set_option maxRecDepth 100000 in
theorem RReplay_any (d : Dev) (v : Value) (f b : Int) (w : World) (h : DiskIs w d v) :
    Calls Tryd.prog 21 #[v, .agg #[.int .i64 f, .int .i64 b]] w fun e w' => ∃ v', e = .returned (.tuple #[v', .int .i64 ((replayJ d (f, b)).2.1 : Nat), .int .i64 ((replayJ d (f, b)).2.2 : Nat)]) ∧ Txt w' w.heap.size v' (replayJ d (f, b)).1 ∧ Below w.heap.size w w' := by
  have HC := Lib.hid (fun W h => RJCheck_any d v f b W h)
  have hD := Lib.hid h
  obtain ⟨r, hr⟩ : ∃ r, r = replayJ d (f, b) := ⟨_, rfl⟩
  rw [← hr]
  unfold replayJ at hr
  obtain ⟨ab, cb, ac, cc, rfl, _, _, hbc, _⟩ := h.form
  clear h hbc
  obtain ⟨k1, k2, hsz, hbl⟩ := alloc2 w (.cells #[.slice ab d.1.length cb, .slice ac d.2.length cc] 25) (.cells #[.int .i64 f, .int .i64 b] 27)
  by_cases h0 : chkJ d (f, b) = 0
  · rw [h0, if_neg (by simp)] at hr
    rw [h0] at HC
    obtain ⟨hg, f', b', e1, hb1, hfb⟩ := chkJ_ok h0
    simp only [Prod.mk.injEq] at e1
    obtain ⟨rfl, rfl⟩ := e1
    have HW := Lib.hid (fun W h => Rwalk_any d (.agg #[.slice ab d.1.length cb, .slice ac d.2.length cc]) f' b' W h hg hfb)
    obtain ⟨L, hL⟩ : ∃ L, L = recsJ (regJ d ((f' : Int), (b' : Int))) := ⟨_, rfl⟩
    rw [← hL] at HW hr
    subst hr
    clear hL h0 hg
    go_enter Tryd.func21, Tryd.ntmps21
    go_wp2_with fail
    refine (HC.out _ (hD.out.below hbl)).mono ?_
    rintro e w1 ⟨rfl, b1⟩
    have k1' := heap_below k1 b1
    have k2' := heap_below k2 b1
    have hb1 := hbl.trans (b1.mono hbl.size)
    have c0 := cell2_0 k1'
    have c1 := cell2_1 k1'
    have r0 := cell2_0 k2'
    have r1 := cell2_1 k2'
    have hw1 := hb1.size
    clear k1 k2 hsz hbl b1 k1' k2'
    go_wp2_with fail
    refine (HW.out _ (hD.out.below hb1)).mono ?_
    rintro e w2 ⟨va, vb, rfl, ta, ib, b2⟩
    have hb2 := hb1.trans (b2.mono hb1.size)
    obtain ⟨iad, icp, rfl⟩ := ta.slice
    obtain ⟨jad, jcp, rfl⟩ := ib.slice
    go_wp2
    exact bodyPost_ret (results_tmp3' rfl _ _ _) rfl ⟨_, rfl, ta.lower hw1, hb2⟩
  · rw [if_pos h0] at hr
    obtain ⟨c, hc⟩ : ∃ c, c = chkJ d (f, b) := ⟨_, rfl⟩
    rw [← hc] at h0 HC hr
    subst hr
    have h0' : ((c : Int) == 0) = false := by simp; exact h0
    clear hc h0
    go_enter Tryd.func21, Tryd.ntmps21
    go_wp2_with fail
    refine (HC.out _ (hD.out.below hbl)).mono ?_
    rintro e w1 ⟨rfl, b1⟩
    have hb1 := hbl.trans (b1.mono hbl.size)
    clear k1 k2 hsz hbl b1
    go_wp2
    exact bodyPost_ret (results_tmp3' rfl _ _ _) rfl ⟨_, rfl, Txt.nil _ _, hb1⟩

set_option maxHeartbeats 4000000 in
set_option maxRecDepth 100000 in
theorem RPlaces_any (d : Dev) (v : Value) (f b : Int) (w : World) (h : DiskIs w d v) :
    Calls Tryd.prog 24 #[v, .agg #[.int .i64 f, .int .i64 b]] w fun e w' => ∃ v', e = .returned (.tuple #[v', .int .i64 ((placesJ d (f, b)).2 : Nat)]) ∧ Ints w' w.heap.size v' (placesJ d (f, b)).1 ∧ Below w.heap.size w w' := by
  have HC := Lib.hid (fun W h => RJCheck_any d v f b W h)
  have hD := Lib.hid h
  obtain ⟨r, hr⟩ : ∃ r, r = placesJ d (f, b) := ⟨_, rfl⟩
  rw [← hr]
  unfold placesJ at hr
  obtain ⟨ab, cb, ac, cc, rfl, _, _, hbc, _⟩ := h.form
  clear h hbc
  obtain ⟨k1, k2, hsz, hbl⟩ := alloc2 w (.cells #[.slice ab d.1.length cb, .slice ac d.2.length cc] 25) (.cells #[.int .i64 f, .int .i64 b] 27)
  by_cases h0 : chkJ d (f, b) = 0
  · rw [h0, if_neg (by simp)] at hr
    rw [h0] at HC
    obtain ⟨hg, f', b', e1, hb1, hfb⟩ := chkJ_ok h0
    simp only [Prod.mk.injEq] at e1
    obtain ⟨rfl, rfl⟩ := e1
    have HW := Lib.hid (fun W h => Rwalk_any d (.agg #[.slice ab d.1.length cb, .slice ac d.2.length cc]) f' b' W h hg hfb)
    obtain ⟨L, hL⟩ : ∃ L, L = recsJ (regJ d ((f' : Int), (b' : Int))) := ⟨_, rfl⟩
    rw [← hL] at HW hr
    subst hr
    clear hL h0 hg
    go_enter Tryd.func24, Tryd.ntmps24
    go_wp2_with fail
    refine (HC.out _ (hD.out.below hbl)).mono ?_
    rintro e w1 ⟨rfl, b1⟩
    have k1' := heap_below k1 b1
    have k2' := heap_below k2 b1
    have hb1 := hbl.trans (b1.mono hbl.size)
    have c0 := cell2_0 k1'
    have c1 := cell2_1 k1'
    have r0 := cell2_0 k2'
    have r1 := cell2_1 k2'
    have hw1 := hb1.size
    clear k1 k2 hsz hbl b1 k1' k2'
    go_wp2_with fail
    refine (HW.out _ (hD.out.below hb1)).mono ?_
    rintro e w2 ⟨va, vb, rfl, ta, ib, b2⟩
    have hb2 := hb1.trans (b2.mono hb1.size)
    obtain ⟨iad, icp, rfl⟩ := ta.slice
    obtain ⟨jad, jcp, rfl⟩ := ib.slice
    go_wp2
    exact bodyPost_ret (results_tmp2 rfl _ _ _) rfl ⟨_, rfl, ib.lower hw1, hb2⟩
  · rw [if_pos h0] at hr
    obtain ⟨c, hc⟩ : ∃ c, c = chkJ d (f, b) := ⟨_, rfl⟩
    rw [← hc] at h0 HC hr
    subst hr
    have h0' : ((c : Int) == 0) = false := by simp; exact h0
    clear hc h0
    go_enter Tryd.func24, Tryd.ntmps24
    go_wp2_with fail
    refine (HC.out _ (hD.out.below hbl)).mono ?_
    rintro e w1 ⟨rfl, b1⟩
    have hb1 := hbl.trans (b1.mono hbl.size)
    clear k1 k2 hsz hbl b1
    go_wp2
    exact bodyPost_ret (results_tmp2 rfl _ _ _) rfl ⟨_, rfl, Ints.nil _ _, hb1⟩
end Go.Proofs.YthhghggaoljcbaaDoor
