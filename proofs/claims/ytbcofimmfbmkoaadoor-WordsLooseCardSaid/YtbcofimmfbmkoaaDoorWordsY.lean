/- The walk of the reference's Rows, chapter 3. -/
import Derived.Test.YtbcofimmfbmkoaaDoorWordsX
namespace Go.Proofs.YtbcofimmfbmkoaaDoor
open Go.RowKit Go.Shelf Words3

theorem Ws.put {w : World} {B n cap f k : Nat} {a : Addr} {ws : List Wd} (h : Ws w B (.slice (some a) n cap) (shiftTo f k ws)) (hk : k < ws.length) :
    w.cell? (a.add (k * 3)) = some (.int .i64 (ws[k].at_ : Int)) ∧ w.frozen? (a.add (k * 3)) = false ∧ Ws (w.setCell (a.add (k * 3)) (.int .i64 ((ws[k].at_ : Int) + (f : Int)))) B (.slice (some a) n cap) (shiftTo f (k + 1) ws) ∧
      Below B w (w.setCell (a.add (k * 3)) (.int .i64 ((ws[k].at_ : Int) + (f : Int)))) := by
  rcases h.form with ⟨h1, _⟩ | ⟨g, c, h1, hB⟩
  · cases h1
  · rw [shiftTo_length] at h1
    cases h1
    have hl := h
    unfold Ws at hl ⊢
    rw [shiftTo_length] at hl ⊢
    rw [addr_add]
    have hc := World.ownsRow.cellAt hl (k * 3) (by omega)
    rw [show k * 3 = k * 3 + 0 from rfl, wcells_get _ _ 0 _ (shiftTo_get f k ws hk) (by omega)] at hc
    obtain ⟨e1, e2⟩ := World.ownsRow.stored hl (k * 3) (.int .i64 ((ws[k].at_ : Int) + (f : Int)))
    refine ⟨hc, World.ownsRow.frozenAt hl _, ?_, below_set (Below.refl _ _) hB⟩
    have e3 := shiftTo_put f k ws hk
    rw [← e3]
    exact e1
theorem Ws.addr {w : World} {B n cap : Nat} {ad : Option Addr} {l : List Wd} (h : Ws w B (.slice ad n cap) l) (hl : 0 < l.length) : ∃ a, ad = some a := by
  rcases h.form with ⟨_, h2⟩ | ⟨g, c, h2, _⟩
  · rw [h2] at hl; exact absurd hl (by simp)
  · injection h2 with h3
    exact ⟨_, h3⟩
theorem idx10_where (s : ByteArray) (k j : Nat) (hkj : k ≤ j) (hj : j ≤ s.size) (hb : ∀ i, k ≤ i → i < j → getz s i ≠ 10) (he : j < s.size → getz s j = 10) : idx 10 (s.data.toList.drop k) = j - k := idx_where 10 s k j hkj hj hb he
/-- What stands between two rounds. -/
structure RRI (s : ByteArray) (R : RowsR) (W0 : World) (f : Nat) (acc : List Rw) (o : Value) (W : World) : Prop where
  is : R = RR s f acc
  le : f ≤ s.size + 1
  few : acc.length ≤ f
  rows : Rs W W0.heap.size o acc
  below : Below W0.heap.size W0 W

theorem Rs.lower {W : World} {B B' : Nat} {v : Value} {l : List Rw} (h : Rs W B v l) (hB : B' ≤ B) : Rs W B' v l := by
  obtain ⟨vs, h1, h2, h3⟩ := h
  exact ⟨vs, h1, own_lower h2 hB, fun p hp => (h3 p hp).lower hB⟩
theorem RRI.skip {s : ByteArray} {R : RowsR} {W0 V V3 : World} {f j : Nat} {acc : List Rw} {o : Value} (h : RRI s R W0 f acc o V) (hb : Below V.heap.size V V3) (h1 : f ≤ j) (h2 : j ≤ s.size) (hn : R = RR s (j + 1) (addRow f [] acc)) : RRI s R W0 (j + 1) acc o V3 :=
  ⟨hn, by omega, by have := h.few; omega, h.rows.below hb, h.below.trans (hb.mono h.below.size)⟩
theorem RRI.snoc {s : ByteArray} {R : RowsR} {W0 V V3 : World} {f j cap : Nat} {acc : List Rw} {ws : List Wd} {o : Value} {ad : Option Addr} (h : RRI s R W0 f acc o V) (hb : Below V.heap.size V V3) (h1 : f ≤ j) (h2 : j ≤ s.size) (hn : R = RR s (j + 1) (addRow f ws acc)) (hws : ws ≠ [])
    (hW : Ws V3 V.heap.size (.slice ad ws.length cap) (ws.map (shiftW f))) :
    ∃ vs : List Value, (V3.alloc (.cells #[.int .i64 (f : Int), .slice ad ws.length cap] 39)).ownsRow W0.heap.size 39 2 o acc.length (rcells vs acc) ∧ W0.heap.size ≤ (V3.alloc (.cells #[.int .i64 (f : Int), .slice ad ws.length cap] 39)).heap.size ∧
      ∀ v' w', w'.ownsRow W0.heap.size 39 2 v' (acc.length + 1) (rcells vs acc ++ [.int .i64 (f : Int), .slice ad ws.length cap]) → (V3.alloc (.cells #[.int .i64 (f : Int), .slice ad ws.length cap] 39)).grownBy w' o.ownBlock →
        RRI s R W0 (j + 1) (acc ++ [⟨f, ws.map (shiftW f)⟩]) v' w' := by
  have hV := h.below.size
  have hV3 := hb.size
  obtain ⟨vs, e1, e2, e3⟩ := h.rows.below hb
  have hg := World.grownBy_alloc V3 (.cells #[.int .i64 (f : Int), .slice ad ws.length cap] 39) none
  have e4 := World.ownsRow.alloc e2 (.cells #[.int .i64 (f : Int), .slice ad ws.length cap] 39)
  have hs : W0.heap.size ≤ (V3.alloc (.cells #[.int .i64 (f : Int), .slice ad ws.length cap] 39)).heap.size := Nat.le_trans (Nat.le_trans hV hV3) hg.size
  refine ⟨vs, e4, hs, fun v' w' k1 k2 => ⟨?_, by omega, by have := h.few; rw [List.length_append]; simp; omega, ?_, ?_⟩⟩
  · rw [hn]; unfold addRow; rw [if_neg hws]
  · exact Rs.snoc (r := ⟨f, ws.map (shiftW f)⟩) e1 e4 (fun p hp => (e3 p hp).off hg (fun k e => by cases e)) ((hW.lower hV).off hg (fun k e => by cases e)) k2 k1
  · exact (((h.below.trans (hb.mono hV)).alloc (Nat.le_trans hV hV3) _)).grown k2 hs (fun k hk => (World.ownsRow.lt e4 k hk).1)

set_option maxHeartbeats 40000000 in
set_option maxRecDepth 100000 in
theorem RRows_any (s : ByteArray) (w : World) :
    Calls Tryd.prog 13 #[.string s] w fun e w' => ∃ v, e = .returned (.tuple #[v, .agg #[.int .i64 ((rowsF s.data.toList).err : Int), .int .i64 ((rowsF s.data.toList).place : Int)]]) ∧ Rs w' w.heap.size v (rowsF s.data.toList).rows ∧ Below w.heap.size w w' := by
  obtain ⟨R, hR⟩ : ∃ R, R = rowsF s.data.toList := ⟨_, rfl⟩
  rw [← hR]
  by_cases hlong : 20000 < s.size
  · have hl : (20000 : Int) < (s.size : Int) := by omega
    have hv : R = ⟨[], 4, 20000⟩ := by rw [hR]; unfold rowsF; rw [if_pos (by rw [bytes_len]; exact hlong)]
    clear hR
    subst hv
    have h0 := World.alloc_heap_new w (.cells #[.int .i64 4, .int .i64 20000] 26)
    have hb0 := Go.Joins.below_alloc1 w (.cells #[.int .i64 4, .int .i64 20000] 26)
    have H := Lib.hid (And.intro h0 hb0)
    clear h0 hb0
    go_enter Tryd.func13, Tryd.ntmps13
    go_wp2_with fail
    refine bodyPost_ret (results_tmp_cell rfl _ _ w.heap.size _ _ _ _ rfl H.out.1 Tryd.underlying26 rfl (by kernel_rfl)) rfl ?_
    exact ⟨_, rfl, Rs.nil _ _, H.out.2⟩
  · have hl : ¬ (20000 : Int) < (s.size : Int) := by omega
    have hv : R = RR s 0 [] := by
      rw [hR]; unfold rowsF RR
      rw [if_neg (by rw [bytes_len]; exact hlong), if_pos (Nat.zero_le _), List.drop_zero]
    clear hR
    have h0 := World.alloc_heap_new w (.cells #[.int .i64 0, .int .i64 0] 26)
    have hb0 := Go.Joins.below_alloc1 w (.cells #[.int .i64 0, .int .i64 0] 26)
    have hsz : (w.alloc (.cells #[.int .i64 0, .int .i64 0] 26)).heap.size = w.heap.size + 1 := World.size_alloc ..
    have HV := Lib.hid hv
    have H := Lib.hid (And.intro h0 (And.intro hb0 hsz))
    clear hv h0 hb0 hsz
    go_enter Tryd.func13, Tryd.ntmps13
    go_wp2_with fail
    generalize World.alloc w _ = W0 at *
    obtain ⟨h0, hb0, hsz⟩ := H.out
    clear H
    go_loopw [4, 5] (fun o a wr => ∃ (f : Nat) (acc : List Rw), a = .int .i64 f ∧ Hid (RRI s R W0 f acc o wr)) (fun _ a _ => s.size + 1 - (intOf a).toNat)
    case atStart => exact ⟨0, [], rfl, Lib.hid ⟨HV.out, Nat.zero_le _, Nat.zero_le _, Rs.nil _ _, Below.refl _ _⟩⟩
    case round =>
      obtain ⟨f, acc, rfl, hI⟩ := hrel
      obtain ⟨V, rfl⟩ : ∃ V, V = wr := ⟨wr, rfl⟩
      clear HV
      have hfle := hI.out.le
      have hac := hI.out.few
      have hVs := hI.out.below.size
      have hfl := (hI.out.below.block w.heap.size (by omega)).trans h0
      have p0 := cell2_0 hfl
      have p1 := cell2_1 hfl
      have q0 := frozen2 hfl 0
      have q1 := frozen2 hfl 1
      have back : ∀ x y : Value, Below w.heap.size w ((V.setCell ⟨w.heap.size, 0, none⟩ x).setCell ⟨w.heap.size, 1, none⟩ y) := fun x y =>
        below_set (below_set (hb0.trans (hI.out.below.mono (by omega))) (by omega)) (by omega)
      have HB := Lib.hid back
      clear back
      rcases Nat.lt_or_ge s.size f with hend | hgo
      · have d1 := le_f (a := (f : Int)) (b := s.size) (by omega)
        have hR := hI.out.is
        rw [RR_end s f acc hend] at hR
        subst hR
        go_wp2_with fail
        refine bodyPost_ret (results_tmp_cell rfl _ _ w.heap.size _ _ _ _ rfl (store2 hfl) Tryd.underlying26 rfl (by kernel_rfl)) rfl ?_
        refine ⟨_, rfl, Rs.lower (((hI.out.rows).off (grown_cell _ w.heap.size 0 _) (fun k e => ?_)).off (grown_cell _ w.heap.size 1 _) (fun k e => ?_)) (by omega), HB.out _ _⟩
        · cases e; exact .inl (by omega)
        · cases e; exact .inl (by omega)
      · have d1 := le_t (a := (f : Int)) (b := s.size) (by omega)
        go_wp2_with fail
        go_loop [6] (fun o => ∃ j : Nat, o = .int .i64 j ∧ f ≤ j ∧ j ≤ s.size ∧ Hid (∀ i, f ≤ i → i < j → getz s i ≠ 10)) (fun o => s.size - (intOf o).toNat)
        case atStart => exact ⟨f, rfl, Nat.le_refl _, hgo, Lib.hid (fun i h1 h2 => absurd h1 (by omega))⟩
        case round =>
          obtain ⟨j, rfl, hfj, hjs, hall⟩ := hrel
          have d2 : (0 : Int) ≤ (j : Int) := by omega
          have hcase : (j < s.size ∧ getz s j ≠ 10) ∨ ((j < s.size ∧ getz s j = 10) ∨ j = s.size) := by
            rcases Nat.lt_or_ge j s.size with h1 | h1
            · by_cases h2 : getz s j = 10
              · exact .inr (.inl ⟨h1, h2⟩)
              · exact .inl ⟨h1, h2⟩
            · exact .inr (.inr (by omega))
          rcases hcase with ⟨h1, hc⟩ | hE
          · have d3 : (j : Int) < s.size := by omega
            have hg : s[j] = getz s j := getz_get s j h1
            have n4 : (((s[j].toNat : Nat) : Int) != 10) = true := by
              rw [bne_iff_ne, hg]; intro h; exact hc (UInt8.toNat_inj.1 (by show _ = 10; omega))
            have hnx : Hid (∀ i, f ≤ i → i < j + 1 → getz s i ≠ 10) := Lib.hid (fun i h3 h4 => by
              rcases Nat.lt_or_ge i j with h5 | h5
              · exact hall.out i h3 h5
              · obtain rfl : i = j := by omega
                exact hc)
            clear hg hc hall
            go_wp2_with fail
            exact ⟨⟨j + 1, by go_num, by omega, h1, hnx⟩, by simp only [intOf]; omega⟩
          · have hi := idx10_where s f j hfj hjs hall.out (fun h => by rcases hE with ⟨_, h2⟩ | h2; exact h2; omega)
            have HL := Lib.hid (fun h => RR_long s f j acc hfj hjs hi h)
            have HBd := Lib.hid (fun p h => RR_bad s f j p acc hfj hjs hi h)
            have HN := Lib.hid (fun h => RR_next s f j acc hfj hjs hi h)
            have hLl := lineAt_length s f j hjs
            have hsub : ∀ W, (Instr.slice 9 (.string s) (some (.int .i64 (f : Int))) (some (.int .i64 (j : Int))) none).run Tryd.prog W = .ok (.string ⟨(lineAt s f j).toArray⟩) W := fun W => sub_str s f j hfj hjs W
            have hpl := fun p => rowF_bad (l := lineAt s f j) (p := p)
            have hat := rowF_at (lineAt s f j)
            have hnn := rowF_nn (lineAt s f j)
            have hrl := rowF_length (lineAt s f j)
            generalize lineAt s f j = L at *
            have i1 : IntKind.i64.wrap ((j : Int) - (f : Int)) = (j : Int) - (f : Int) := by rw [IntKind.wrap_i64]; omega
            have i2 : IntKind.i64.wrap ((j : Int) + 1) = (j : Int) + 1 := by rw [IntKind.wrap_i64]; omega
            have HRw := Lib.hid (fun (h : L.length ≤ 100000) => show Calls Tryd.prog 36 #[.string ⟨L.toArray⟩] V fun e w' => RRowPost (rowF L) V.heap.size e w' ∧ Below V.heap.size V w' from Rrow_any V ⟨L.toArray⟩ h)
            clear hi hall
            rcases hE with ⟨h1, hc⟩ | h1
            all_goals
              first
              | (have d3 : (j : Int) < s.size := by omega
                 have hg : s[j] = getz s j := getz_get s j h1
                 have n4 : (((s[j].toNat : Nat) : Int) != 10) = false := by rw [hg, hc]; rfl
                 clear hg hc)
              | (have d3 := lt_f (a := (j : Int)) (b := s.size) (by omega)
                 have d3b : decide (j < s.size) = false := decide_eq_false (by omega)
                 clear h1)
            all_goals
              by_cases hlg : 1000 < j - f
              · have hR := hI.out.is
                rw [HL.out hlg] at hR
                clear HL HBd HN HRw
                subst hR
                have d4 := lt_t (a := 1000) (b := (j : Int) - (f : Int)) (by omega)
                go_wp2_with fail
                refine bodyPost_ret (results_tmp_cell rfl _ _ w.heap.size _ _ _ _ rfl (store2 hfl) Tryd.underlying26 rfl (by kernel_rfl)) rfl ?_
                exact ⟨_, rfl, Rs.nil _ _, HB.out _ _⟩
              · have d4 := lt_f (a := 1000) (b := (j : Int) - (f : Int)) (by omega)
                have HRw1 := Lib.hid (HRw.out (by omega))
                have HBd1 := Lib.hid (fun p => HBd.out p hlg)
                have HN1 := Lib.hid (HN.out hlg)
                clear HL HRw HBd HN
                generalize rowF L = RF at *
                obtain ⟨ws, bad⟩ := RF
                dsimp only at hpl hat hrl hnn
                cases bad with
                | some p =>
                  have hR := hI.out.is
                  rw [HBd1.out p rfl] at hR
                  have hple := hpl p rfl
                  clear HBd1 HN1 hat hrl hnn
                  subst hR
                  have d5 := le_t (a := 0) (b := (p : Int)) (by omega)
                  have i3 : IntKind.i64.wrap ((f : Int) + (p : Int)) = (f : Int) + (p : Int) := by rw [IntKind.wrap_i64]; omega
                  go_wp2_with fail
                  refine HRw1.out.mono ?_
                  rintro e w2 ⟨he, hb⟩
                  have he := he.1 p rfl
                  subst he
                  have hfl2 := heap_below hfl hb
                  have p0 := cell2_0 hfl2
                  have p1 := cell2_1 hfl2
                  have q0 := frozen2 hfl2 0
                  have q1 := frozen2 hfl2 1
                  have hb2 := below_set (j := 1) (u := .int .i64 ((f : Int) + (p : Int))) (below_set (j := 0) (u := .int .i64 3) (hb0.trans ((hI.out.below.trans (hb.mono hVs)).mono (by omega))) (Nat.le_refl _)) (Nat.le_refl _)
                  go_wp2_with fail
                  refine bodyPost_ret (results_tmp_cell rfl _ _ w.heap.size _ _ _ _ rfl (store2 hfl2) Tryd.underlying26 rfl (by kernel_rfl)) rfl ?_
                  exact ⟨_, rfl, Rs.nil _ _, hb2⟩
                | none =>
                  have HN2 := Lib.hid (HN1.out rfl)
                  clear HBd1 hpl HN1
                  go_wp2_with fail
                  refine HRw1.out.mono ?_
                  rintro e w2 ⟨he, hb⟩
                  obtain ⟨v, rfl, hWs⟩ := he.2 rfl
                  obtain ⟨ad, cap, rfl⟩ := hWs.slice
                  clear he HRw1
                  go_wp2_with fail
                  go_loopw [9] (fun i wr => ∃ k : Nat, i = .int .i64 k ∧ k ≤ ws.length ∧ Hid (Below V.heap.size V wr ∧ Ws wr V.heap.size (.slice ad ws.length cap) (shiftTo f k ws))) (fun i _ => ws.length - (intOf i).toNat)
                  case atStart => exact ⟨0, rfl, Nat.zero_le _, Lib.hid ⟨hb, by rw [shiftTo_zero]; exact hWs⟩⟩
                  case round =>
                    obtain ⟨k, rfl, hk, hS⟩ := hrel
                    obtain ⟨V3, rfl⟩ : ∃ V3, V3 = wr := ⟨wr, rfl⟩
                    have e0 : (0 : Int) ≤ (k : Int) := by omega
                    rcases Nat.lt_or_ge k ws.length with hkl | hkg
                    · have d6 : (k : Int) < ws.length := by omega
                      obtain ⟨a, rfl⟩ : ∃ a, ad = some a := hS.out.2.addr (by rw [shiftTo_length]; omega)
                      obtain ⟨x0, fz, hW4, hB4⟩ := hS.out.2.put hkl
                      have hS4 := Lib.hid (And.intro (hS.out.1.trans hB4) hW4)
                      have hw4 := hat ws[k] (List.getElem_mem hkl)
                      have hw5 := hnn ws[k] (List.getElem_mem hkl)
                      have i4 : IntKind.i64.wrap ((ws[k].at_ : Int) + (f : Int)) = (ws[k].at_ : Int) + (f : Int) := by rw [IntKind.wrap_i64]; omega
                      clear hW4 hB4 hS
                      go_wp2_with fail
                      exact ⟨⟨k + 1, by go_num, hkl, hS4⟩, by simp only [intOf]; omega⟩
                    · obtain rfl : k = ws.length := by omega
                      have d6 := lt_f (a := (ws.length : Int)) (b := ws.length) (by omega)
                      have hW3 := hS.out.2
                      rw [shiftTo_all] at hW3
                      have hb3 := hS.out.1
                      by_cases hws : ws = []
                      · subst hws
                        have hnx := Lib.hid (hI.out.skip hb3 hfj hjs (hI.out.is.trans HN2.out))
                        clear hW3 hS hWs
                        go_wp2_with fail
                        exact ⟨⟨j + 1, acc, by go_num, hnx⟩, by simp only [intOf]; omega⟩
                      · have hpos : 0 < ws.length := List.length_pos_iff.2 hws
                        have d7 := lt_t (a := 0) (b := (ws.length : Int)) (by omega)
                        obtain ⟨vs, e3, b3, hnx⟩ := hI.out.snoc hb3 hfj hjs (hI.out.is.trans HN2.out) hws hW3
                        obtain ⟨i0, hi, hz0, hz1, hz2⟩ := info_parts infoRow
                        have hnc := new_cellsN V3 [.int .i64 (f : Int), .slice ad ws.length cap] 39 rfl
                        have h1c : ∀ u ∈ [Value.int .i64 (f : Int), .slice ad ws.length cap], u.oneCell' = true := by
                          intro u hu
                          simp only [List.mem_cons, List.not_mem_nil, or_false] at hu
                          rcases hu with rfl | rfl <;> rfl
                        have HNX := Lib.hid hnx
                        clear hnx hW3 hS hWs
                        go_wp2_with (at_builtin; refine wpList_append_own _ rfl _ _ 23 rfl W0.heap.size 39 i0 (.agg #[.int .i64 0, .slice none 0 0]) 2 32 Tryd.underlying23 hi hz0 hz1 hz2 rfl (by decide) _ _ _ rfl e3 ⟨V3.heap.size, 0, none⟩ 1 1 _ rfl rfl hnc h1c (by unfold maxLen; omega) (by omega) b3 ?_; intro v' w' hown hgr _)
                        exact ⟨⟨j + 1, _, by go_num, Lib.hid (HNX.out _ _ hown hgr)⟩, by simp only [intOf]; omega⟩
end Go.Proofs.YtbcofimmfbmkoaaDoor
