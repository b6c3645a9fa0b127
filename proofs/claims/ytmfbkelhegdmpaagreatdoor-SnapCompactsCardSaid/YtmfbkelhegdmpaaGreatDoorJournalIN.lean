/- Texts of small laws, one behind the other. -/
import Derived.Test.YtmfbkelhegdmpaaGreatDoorJournalFH
import Derived.Test.YtmfbkelhegdmpaaGreatDoorDiskAW
/- The walk of Replay, chapter 12 (journal). -/
namespace Go.Proofs.YtmfbkelhegdmpaaGreatDoor
open Go.RowKit Disk11 Journal12 Sum2

attribute [local go_sem] Oper.semAt_some

set_option maxHeartbeats 4000000 in
set_option maxRecDepth 100000 in
theorem Replay_any (d : Dev) (v : Value) (f b : Int) (w : World) (h : DiskIs w d v) (ht : Tab w) :
    Calls Tryz.prog 50 #[v, .agg #[.int .i64 f, .int .i64 b]] w fun e w' => ∃ v', e = .returned (.tuple #[v', .int .i64 ((replayJ d (f, b)).2.1 : Nat), .int .i64 ((replayJ d (f, b)).2.2 : Nat)]) ∧ Txt w' w.heap.size v' (replayJ d (f, b)).1 ∧ Below w.heap.size w w' := by
  refine (callsIn_wide (n := 9)).1 ?_
  have HC := Lib.hid (fun W h => JCheck_any d v f b W h)
  have hD := Lib.hid h
  obtain ⟨r, hr⟩ : ∃ r, r = replayJ d (f, b) := ⟨_, rfl⟩
  rw [← hr]
  unfold replayJ at hr
  obtain ⟨ab, cb, ac, cc, rfl, _, _, hbc, _⟩ := h.form
  clear h hbc
  obtain ⟨k1, k2, hsz, hbl⟩ := alloc2 w (.cells #[.slice ab d.1.length cb, .slice ac d.2.length cc] 29) (.cells #[.int .i64 f, .int .i64 b] 65)
  by_cases h0 : chkJ d (f, b) = 0
  · rw [h0, if_neg (by simp)] at hr
    rw [h0] at HC
    obtain ⟨hg, f', b', e1, hb1, hfb⟩ := chkJ_ok h0
    simp only [Prod.mk.injEq] at e1
    obtain ⟨rfl, rfl⟩ := e1
    have hl := hg.2.1
    have HR := Lib.hid (fun W h => region_any d (.agg #[.slice ab d.1.length cb, .slice ac d.2.length cc]) f' b' W h hg hfb)
    have hrl := regJ_length hg hfb
    obtain ⟨S, hS⟩ : ∃ S, S = regJ d ((f' : Int), (b' : Int)) := ⟨_, rfl⟩
    rw [← hS] at HR hrl hr
    have hSl : S.length ≤ 262144 := by omega
    clear hS hg h0 hrl
    have hp := fun n c W => records_any n c W
    refine callsIn_of_wp_marks Tryz.func50 rfl trivial ?_ rfl
    simp only [Tryz.ntmps50, List.size_toArray, List.length_cons, List.length_nil, Nat.reduceAdd, Nat.reduceSub, Array.replicate_succ, Array.replicate_zero, List.push_toArray, List.append_toArray, List.nil_append, List.cons_append]
    gi_wp2_with fail
    refine ⟨trivial, ?_⟩
    refine (callsIn_wide.2 (HC.out _ (hD.out.below hbl))).mono ?_
    rintro e w1 ⟨rfl, b1⟩
    have k1' := heap_below k1 b1
    have k2' := heap_below k2 b1
    have hb1 := Lib.hid (hbl.trans (b1.mono hbl.size))
    have c0 := cell2_0 k1'
    have c1 := cell2_1 k1'
    have r0 := cell2_0 k2'
    have r1 := cell2_1 k2'
    clear k1 k2 hsz hbl b1 k1' k2'
    gi_wp2_with fail
    refine ⟨trivial, ?_⟩
    refine (callsIn_wide.2 (HR.out _ (hD.out.below hb1.out))).mono ?_
    rintro e w2 ⟨rfl, b2⟩
    have hb2 := Lib.hid (hb1.out.trans (b2.mono hb1.out.size))
    clear b2 c0 c1 r0 r1
    gi_wp2_with fail
    refine ⟨trivial, ?_⟩
    refine (hp _ _ _).mono ?_
    rintro e w4 ⟨rfl, rfl⟩
    clear hp
    gi_wp2_with fail
    obtain ⟨L, hL⟩ : ∃ L, L = recsAt 0 (recsJ S) := ⟨_, rfl⟩
    have hLs : L.map (·.2) = recsJ S := by rw [hL, recsAt_snd]
    have hLl : L.length ≤ 262144 := by
      have h1 := size_ge (recsJ S)
      have h2 := recs_size S
      rw [hLs.symm, List.length_map] at h1
      rw [hLs.symm] at h2
      omega
    obtain ⟨W0, hW0⟩ : ∃ W0, ((w2.alloc (.cells #[.string ⟨S.toArray⟩, .int .i64 0, .bool false] 134)).alloc (.cells #[.slice none 0 0] 26)).alloc (.cells #[.pointer (some ⟨w2.heap.size, 0, none⟩)] 131) = W0 := ⟨_, rfl⟩
    rw [hW0]
    have hs0 : W0.heap.size = w2.heap.size + 3 := by rw [← hW0]; simp
    have z0 : W0.heap[w2.heap.size]? = some (.cells (curCells S 0 false) 134 (0, 0)) := by
      rw [← hW0, Below.heap_alloc _ _ _ (by simp only [World.size_alloc]; omega), Below.heap_alloc _ _ _ (by simp)]; exact World.alloc_heap_new w2 _
    have z1 : Boxed W0 (w2.heap.size + 1) 26 (.slice none 0 0) := by
      unfold Boxed
      rw [← hW0, Below.heap_alloc _ _ _ (by simp)]
      have := World.alloc_heap_new (w2.alloc (.cells #[.string ⟨S.toArray⟩, .int .i64 0, .bool false] 134)) (.cells #[.slice none 0 0] 26)
      rwa [World.size_alloc] at this
    have z2 : W0.heap[w2.heap.size + 1 + 1]? = some (.cells #[.pointer (some ⟨w2.heap.size, 0, none⟩)] 131 (0, 0)) := by
      rw [← hW0]
      have := World.alloc_heap_new ((w2.alloc (.cells #[.string ⟨S.toArray⟩, .int .i64 0, .bool false] 134)).alloc (.cells #[.slice none 0 0] 26)) (.cells #[.pointer (some ⟨w2.heap.size, 0, none⟩)] 131)
      rwa [World.size_alloc, World.size_alloc] at this
    have hb0 : Below w.heap.size w W0 := by
      rw [← hW0]
      exact ((hb2.out.alloc hb2.out.size _).alloc (by rw [World.size_alloc]; have := hb2.out.size; omega) _).alloc (by rw [World.size_alloc, World.size_alloc]; have := hb2.out.size; omega) _
    have hsz2 := hb2.out.size
    clear hW0
    refine range_v rfl (by omega) (gf := 125) (lb := #[.pointer (some ⟨w2.heap.size + 1 + 1, 0, none⟩)]) rfl trivial (enters_of Tryz.func125 (by kernel_rfl) rfl)
      (records1_any _ _ _ S hSl L hL) z0 (fun _ => rfl) (RepI w w2.heap.size (w2.heap.size + 1) (w2.heap.size + 1 + 1)) (fun _ _ _ => False) (RepI.mine w _ _ _ _ ht hsz2 (by omega) (by omega) (by omega)) (fun _ _ h => h.2.1) (fun _ => ⟨fun _ _ _ h _ => h, fun _ _ _ _ h _ _ _ => h⟩)
      (fun W hb => by
        have hbl := hb0.trans (hb.mono hb0.size)
        exact ⟨⟨_, (hb.block _ (by omega)).trans z1, Txt.nil _ _⟩, ⟨(hb.block _ (by omega)).trans z2, ht.below hbl⟩, hbl, _, (hb.block _ (by omega)).trans z0⟩)
      (fun x => { tmps := #[.agg #[.slice ab d.1.length cb, .slice ac d.2.length cc], .agg #[.int .i64 (f' : Int), .int .i64 (b' : Int)], .pointer (some ⟨w.heap.size, 0, none⟩), .pointer (some ⟨w.heap.size + 1, 0, none⟩), .slice none 0 0, .int .i64 0, .int .i64 0, .int .i64 0, .pointer (some ⟨w2.heap.size, 0, none⟩), .pointer (some ⟨w2.heap.size + 1, 0, none⟩), undef, .string ⟨x.2.toArray⟩, .agg #[.slice ab d.1.length cb, .slice ac d.2.length cc], .agg #[.int .i64 (f' : Int), .int .i64 (b' : Int)], .int .i64 0, .int .i64 0, .bool false, undef, .agg #[.slice ab d.1.length cb, .slice ac d.2.length cc], .agg #[.int .i64 (f' : Int), .int .i64 (b' : Int)], .string ⟨S.toArray⟩, .agg #[.string ⟨S.toArray⟩, .int .i64 0, .bool false], .pointer (some ⟨w2.heap.size, 0, none⟩), .pointer (some ⟨w2.heap.size, 0, none⟩), .func (.func 125) #[] #[.pointer (some ⟨w2.heap.size + 1 + 1, 0, none⟩)], .int .i64 (x.1 : Int), .string ⟨x.2.toArray⟩, undef, undef, undef, undef, undef, undef, undef, undef, undef], defers := [] }) ?assign ?body ?done ?stop
    case assign =>
      intro l x W K hK
      unfold recEnc
      gi_wp2
      exact hK
    case body =>
      rintro l pre x post W hx ⟨⟨v, q1, q2⟩, q3, q4, cv, q5⟩
      have hlen := congrArg List.length hx
      rw [List.length_append, List.length_cons] at hlen
      have hpl : pre.length ≤ 262144 := by omega
      have hw := q4.size
      obtain ⟨i0, hi, hz0, hz1, hz2⟩ := info_parts infoStr
      have hq2 := q2
      unfold Txt at hq2
      rw [List.length_map] at hq2
      have u1 := q1.cell
      obtain ⟨q3a, q3b⟩ := q3
      have HE := Lib.hid (fun (v' : Value) (w' : World) (hown : w'.ownsRow w.heap.size 9 1 v' (pre.length + 1) (strVals (pre.map (·.2)) ++ [.string ⟨x.2.toArray⟩])) (hgr : (W.alloc (.cells #[.string ⟨x.2.toArray⟩] 9)).grownBy w' v.ownBlock) =>
        And.intro (Boxed.appended q1 (by decide) hq2 hw (by omega) hown hgr) (And.intro (kept_app (v' := v') hq2 hgr q3a (by decide) (by omega : w2.heap.size + 1 + 1 ≠ w2.heap.size + 1)) (kept_app (v' := v') hq2 hgr q5 (by decide) (by omega : w2.heap.size ≠ w2.heap.size + 1))))
      have hq4 := Lib.hid q4
      have hq5 := Lib.hid q5
      clear hlen hx hLs hL q3a q3b q4 z0 z1 z2 hb0 hs0 q5
      gi_wp2_with (gi_at_builtin; refine wpListIn_append_own _ rfl _ _ 26 rfl w.heap.size 9 i0 (.string ⟨#[]⟩) 1 16 Tryz.underlying26 hi hz0 hz1 hz2 rfl (by decide) _ _ _ rfl (World.ownsRow.alloc hq2 _) ⟨W.heap.size, 0, none⟩ 1 1 [.string ⟨x.2.toArray⟩] rfl rfl (cell_one_new _ _ _) (by intro u hu; simp at hu; subst hu; rfl) (by unfold maxLen; omega) (by omega) (by rw [World.size_alloc]; omega) ?_
                   intro v' w' hown hgr _
                   obtain ⟨⟨a1, a2, a3, a4, a5⟩, a6, a7⟩ := HE.out v' w' hown hgr
                   obtain ⟨g9, cap9, rfl⟩ := ownsRow_succ hown
                   have a8 := a1.cell
                   have a9 := a1.frozen)
      have hbl9 := hq4.out.trans (a5.mono (Nat.le_refl _))
      refine ⟨a4.from _, a7.trans hq5.out.symm, ⟨⟨_, a2, ?_⟩, ⟨a6, ht.below hbl9⟩, hbl9, _, a7⟩⟩
      unfold Txt
      rw [List.map_append, strVals_append, List.length_append, List.length_map]
      exact a3
    case done =>
      rintro D W hD ⟨⟨v, q1, q2⟩, q3, q4, q5⟩ hz hK
      have u1 := q1.cell
      obtain ⟨u2, u3, u4, _⟩ := cur_facts hz
      rw [hLs] at q2
      have hs9 := hb0.size
      clear hL hLs z0 z1 z2 hb0 hs0 q1 q3 q5 hz
      gi_wp2_with fail
      gi_region
      gi_wp2
      subst hr
      refine ⟨by simp, .inl ⟨_, _, rfl, run_takeDeferred (show (W.drew).heap[D]? = _ from hK), ?_⟩⟩
      have hb4 : Below w.heap.size w W.drew := q4.drew
      have hown := q2.drew
      refine ⟨_, results_tmp3' rfl _ _ _, _, rfl, ?_, hb4.trans (belowK_b (w := w) (Nat.le_refl _) W.drew D _ _ (by omega) (show W.drew.heap[D]? = _ from hK) rfl rfl)⟩
      exact ownsRow_putObj hown _ (show W.drew.heap[D]? = _ from hK) rfl
    case stop =>
      rintro D j pre W _ _ h _
      exact h.elim
  · rw [if_pos h0] at hr
    obtain ⟨c, hc⟩ : ∃ c, c = chkJ d (f, b) := ⟨_, rfl⟩
    rw [← hc] at h0 HC hr
    subst hr
    have h0' : ((c : Int) == 0) = false := by simp; exact h0
    clear hc h0
    refine callsIn_of_wp_marks Tryz.func50 rfl trivial ?_ rfl
    simp only [Tryz.ntmps50, List.size_toArray, List.length_cons, List.length_nil, Nat.reduceAdd, Nat.reduceSub, Array.replicate_succ, Array.replicate_zero, List.push_toArray, List.append_toArray, List.nil_append, List.cons_append]
    gi_wp2_with fail
    refine ⟨trivial, ?_⟩
    refine (callsIn_wide.2 (HC.out _ (hD.out.below hbl))).mono ?_
    rintro e w1 ⟨rfl, b1⟩
    have hb1 := hbl.trans (b1.mono hbl.size)
    clear k1 k2 hsz hbl b1
    gi_wp2
    exact ⟨_, results_tmp3' rfl _ _ _, _, rfl, Txt.nil _ _, hb1⟩
end Go.Proofs.YtmfbkelhegdmpaaGreatDoor
/- The walk of Places, chapter 12 (journal). -/
namespace Go.Proofs.YtmfbkelhegdmpaaGreatDoor
open Go.RowKit Disk11 Journal12 Sum2

attribute [local go_sem] Oper.semAt_some

set_option maxHeartbeats 4000000 in
set_option maxRecDepth 100000 in
theorem Places_any (d : Dev) (v : Value) (f b : Int) (w : World) (h : DiskIs w d v) (ht : Tab w) :
    Calls Tryz.prog 51 #[v, .agg #[.int .i64 f, .int .i64 b]] w fun e w' => ∃ v', e = .returned (.tuple #[v', .int .i64 ((placesJ d (f, b)).2 : Nat)]) ∧ Ints w' w.heap.size v' (placesJ d (f, b)).1 ∧ Below w.heap.size w w' := by
  refine (callsIn_wide (n := 9)).1 ?_
  have HC := Lib.hid (fun W h => JCheck_any d v f b W h)
  have hD := Lib.hid h
  obtain ⟨r, hr⟩ : ∃ r, r = placesJ d (f, b) := ⟨_, rfl⟩
  rw [← hr]
  unfold placesJ at hr
  obtain ⟨ab, cb, ac, cc, rfl, _, _, hbc, _⟩ := h.form
  clear h hbc
  obtain ⟨k1, k2, hsz, hbl⟩ := alloc2 w (.cells #[.slice ab d.1.length cb, .slice ac d.2.length cc] 29) (.cells #[.int .i64 f, .int .i64 b] 65)
  by_cases h0 : chkJ d (f, b) = 0
  · rw [h0, if_neg (by simp)] at hr
    rw [h0] at HC
    obtain ⟨hg, f', b', e1, hb1, hfb⟩ := chkJ_ok h0
    simp only [Prod.mk.injEq] at e1
    obtain ⟨rfl, rfl⟩ := e1
    have hl := hg.2.1
    have HR := Lib.hid (fun W h => region_any d (.agg #[.slice ab d.1.length cb, .slice ac d.2.length cc]) f' b' W h hg hfb)
    have hrl := regJ_length hg hfb
    obtain ⟨S, hS⟩ : ∃ S, S = regJ d ((f' : Int), (b' : Int)) := ⟨_, rfl⟩
    rw [← hS] at HR hrl hr
    have hSl : S.length ≤ 262144 := by omega
    clear hS hg h0 hrl
    have hp := fun n c W => records_any n c W
    refine callsIn_of_wp_marks Tryz.func51 rfl trivial ?_ rfl
    simp only [Tryz.ntmps51, List.size_toArray, List.length_cons, List.length_nil, Nat.reduceAdd, Nat.reduceSub, Array.replicate_succ, Array.replicate_zero, List.push_toArray, List.append_toArray, List.nil_append, List.cons_append]
    gi_wp2_with fail
    refine ⟨trivial, ?_⟩
    refine (callsIn_wide.2 (HC.out _ (hD.out.below hbl))).mono ?_
    rintro e w1 ⟨rfl, b1⟩
    have k1' := heap_below k1 b1
    have k2' := heap_below k2 b1
    have hb1 := Lib.hid (hbl.trans (b1.mono hbl.size))
    have q1' := World.alloc_heap_new w1 (.cells #[.slice none 0 0] 54)
    have al := Go.Joins.below_alloc1 w1 (.cells #[.slice none 0 0] 54)
    have k1'' := heap_below k1' al
    have k2'' := heap_below k2' al
    have hb1a := Lib.hid (hb1.out.trans (al.mono hb1.out.size))
    have c0 := cell2_0 k1''
    have c1 := cell2_1 k1''
    have r0 := cell2_0 k2''
    have r1 := cell2_1 k2''
    have hq1' := Lib.hid q1'
    have hsw1 := hb1.out.size
    clear k1 k2 hsz hbl b1 k1' k2' k1'' k2'' q1' al
    gi_wp2_with fail
    refine ⟨trivial, ?_⟩
    refine (callsIn_wide.2 (HR.out _ (hD.out.below hb1a.out))).mono ?_
    rintro e w2 ⟨rfl, b2⟩
    have hb2 := Lib.hid (hb1a.out.trans (b2.mono hb1a.out.size))
    have z1' := heap_below hq1'.out b2
    have hsb2 := b2.size
    rw [World.size_alloc] at hsb2
    clear b2 c0 c1 r0 r1
    gi_wp2_with fail
    refine ⟨trivial, ?_⟩
    refine (hp _ _ _).mono ?_
    rintro e w4 ⟨rfl, rfl⟩
    clear hp
    gi_wp2_with fail
    obtain ⟨L, hL⟩ : ∃ L, L = recsAt 0 (recsJ S) := ⟨_, rfl⟩
    have hLs0 : L.map (·.2) = recsJ S := by rw [hL, recsAt_snd]
    have hLs : L.map (·.1) = offsJ 0 (recsJ S) := by rw [hL, recsAt_fst]
    have hLl : L.length ≤ 262144 := by
      have h1 := size_ge (recsJ S)
      have h2 := recs_size S
      rw [hLs0.symm, List.length_map] at h1
      rw [hLs0.symm] at h2
      omega
    obtain ⟨W0, hW0⟩ : ∃ W0, (w2.alloc (.cells #[.string ⟨S.toArray⟩, .int .i64 0, .bool false] 134)).alloc (.cells #[.pointer (some ⟨w2.heap.size, 0, none⟩)] 131) = W0 := ⟨_, rfl⟩
    rw [hW0]
    have hs0 : W0.heap.size = w2.heap.size + 2 := by rw [← hW0]; simp
    have z0 : W0.heap[w2.heap.size]? = some (.cells (curCells S 0 false) 134 (0, 0)) := by
      rw [← hW0, Below.heap_alloc _ _ _ (by simp)]; exact World.alloc_heap_new w2 _
    have z2 : W0.heap[w2.heap.size + 1]? = some (.cells #[.pointer (some ⟨w2.heap.size, 0, none⟩)] 131 (0, 0)) := by
      rw [← hW0]
      have := World.alloc_heap_new (w2.alloc (.cells #[.string ⟨S.toArray⟩, .int .i64 0, .bool false] 134)) (.cells #[.pointer (some ⟨w2.heap.size, 0, none⟩)] 131)
      rwa [World.size_alloc] at this
    have hal2 : Below w2.heap.size w2 W0 := by rw [← hW0]; exact Go.Joins.below_alloc2 w2 _ _
    have hb0 : Below w.heap.size w W0 := hb2.out.trans (hal2.mono hb2.out.size)
    have z1 : Boxed W0 w1.heap.size 54 (.slice none 0 0) := heap_below z1' hal2
    have hsz2 := hb2.out.size
    clear hW0
    refine range_v rfl (by omega) (gf := 125) (lb := #[.pointer (some ⟨w2.heap.size + 1, 0, none⟩)]) rfl trivial (enters_of Tryz.func125 (by kernel_rfl) rfl)
      (records1_any _ _ _ S hSl L hL) z0 (fun _ => rfl) (PlaI w w2.heap.size w1.heap.size (w2.heap.size + 1)) (fun _ _ _ => False) (PlaI.mine w _ _ _ _ ht hsz2 (by omega) (by omega) (by omega)) (fun _ _ h => h.2.1) (fun _ => ⟨fun _ _ _ h _ => h, fun _ _ _ _ h _ _ _ => h⟩)
      (fun W hb => by
        have hbl := hb0.trans (hb.mono hb0.size)
        exact ⟨⟨_, (hb.block _ (by omega)).trans z1, Ints.nil _ _⟩, ⟨(hb.block _ (by omega)).trans z2, ht.below hbl⟩, hbl, _, (hb.block _ (by omega)).trans z0⟩)
      (fun x => { tmps := #[.agg #[.slice ab d.1.length cb, .slice ac d.2.length cc], .agg #[.int .i64 (f' : Int), .int .i64 (b' : Int)], .pointer (some ⟨w.heap.size, 0, none⟩), .pointer (some ⟨w.heap.size + 1, 0, none⟩), .slice none 0 0, .int .i64 0, .int .i64 0, .pointer (some ⟨w1.heap.size, 0, none⟩), .int .i64 (x.1 : Int), .agg #[.slice ab d.1.length cb, .slice ac d.2.length cc], .agg #[.int .i64 (f' : Int), .int .i64 (b' : Int)], .int .i64 0, .int .i64 0, .bool false, undef, .agg #[.slice ab d.1.length cb, .slice ac d.2.length cc], .agg #[.int .i64 (f' : Int), .int .i64 (b' : Int)], .string ⟨S.toArray⟩, .agg #[.string ⟨S.toArray⟩, .int .i64 0, .bool false], .pointer (some ⟨w2.heap.size, 0, none⟩), .func (.func 125) #[] #[.pointer (some ⟨w2.heap.size + 1, 0, none⟩)], .int .i64 (x.1 : Int), .string ⟨x.2.toArray⟩, undef, undef, undef, undef, undef], defers := [] }) ?assign ?body ?done ?stop
    case assign =>
      intro l x W K hK
      unfold recEnc
      gi_wp2
      exact hK
    case body =>
      rintro l pre x post W hx ⟨⟨v, q1, q2⟩, q3, q4, cv, q5⟩
      have hlen := congrArg List.length hx
      rw [List.length_append, List.length_cons] at hlen
      have hpl : pre.length ≤ 262144 := by omega
      have hw := q4.size
      obtain ⟨i0, hi, hz0, hz1, hz2⟩ := info_parts infoInt
      have hq2 := q2
      unfold Ints at hq2
      rw [List.length_map] at hq2
      have u1 := q1.cell
      obtain ⟨q3a, q3b⟩ := q3
      have HE := Lib.hid (fun (v' : Value) (w' : World) (hown : w'.ownsRow w.heap.size 3 1 v' (pre.length + 1) (intVals (pre.map (·.1)) ++ [.int .i64 (x.1 : Int)])) (hgr : (W.alloc (.cells #[.int .i64 (x.1 : Int)] 3)).grownBy w' v.ownBlock) =>
        And.intro (Boxed.appended q1 (by decide) hq2 hw (by omega) hown hgr) (And.intro (kept_app (v' := v') hq2 hgr q3a (by decide) (by omega : w2.heap.size + 1 ≠ w1.heap.size)) (kept_app (v' := v') hq2 hgr q5 (by decide) (by omega : w2.heap.size ≠ w1.heap.size))))
      have hq4 := Lib.hid q4
      have hq5 := Lib.hid q5
      clear hlen hx hLs hL q3a q3b q4 z0 z1 z2 hb0 hs0 q5
      gi_wp2_with (gi_at_builtin; refine wpListIn_append_own _ rfl _ _ 54 rfl w.heap.size 3 i0 (.int .i64 0) 1 8 Tryz.underlying54 hi hz0 hz1 hz2 rfl (by decide) _ _ _ rfl (World.ownsRow.alloc hq2 _) ⟨W.heap.size, 0, none⟩ 1 1 [.int .i64 (x.1 : Int)] rfl rfl (cell_one_new _ _ _) (by intro u hu; simp at hu; subst hu; rfl) (by unfold maxLen; omega) (by omega) (by rw [World.size_alloc]; omega) ?_
                   intro v' w' hown hgr _
                   obtain ⟨⟨a1, a2, a3, a4, a5⟩, a6, a7⟩ := HE.out v' w' hown hgr
                   obtain ⟨g9, cap9, rfl⟩ := ownsRow_succ hown
                   have a8 := a1.cell
                   have a9 := a1.frozen)
      have hbl9 := hq4.out.trans (a5.mono (Nat.le_refl _))
      refine ⟨a4.from _, a7.trans hq5.out.symm, ⟨⟨_, a2, ?_⟩, ⟨a6, ht.below hbl9⟩, hbl9, _, a7⟩⟩
      unfold Ints
      rw [List.map_append, intVals_append, List.length_append, List.length_map]
      exact a3
    case done =>
      rintro D W hD ⟨⟨v, q1, q2⟩, q3, q4, q5⟩ hz hK
      have u1 := q1.cell
      rw [hLs] at q2
      have hs9 := hb0.size
      clear hL hLs z0 z1 z2 hb0 hs0 q1 q3 q5 hz
      subst hr
      gi_wp2
      refine ⟨by simp, .inl ⟨_, _, rfl, run_takeDeferred (show W.heap[D]? = _ from hK), ?_⟩⟩
      refine ⟨_, results_tmp2 rfl _ _ _, _, rfl, ?_, q4.trans (belowK_b (w := w) (Nat.le_refl _) W D _ _ (by omega) (show W.heap[D]? = _ from hK) rfl rfl)⟩
      exact ownsRow_putObj q2 _ (show W.heap[D]? = _ from hK) rfl
    case stop =>
      rintro D j pre W _ _ h _
      exact h.elim
  · rw [if_pos h0] at hr
    obtain ⟨c, hc⟩ : ∃ c, c = chkJ d (f, b) := ⟨_, rfl⟩
    rw [← hc] at h0 HC hr
    subst hr
    have h0' : ((c : Int) == 0) = false := by simp; exact h0
    clear hc h0
    refine callsIn_of_wp_marks Tryz.func51 rfl trivial ?_ rfl
    simp only [Tryz.ntmps51, List.size_toArray, List.length_cons, List.length_nil, Nat.reduceAdd, Nat.reduceSub, Array.replicate_succ, Array.replicate_zero, List.push_toArray, List.append_toArray, List.nil_append, List.cons_append]
    gi_wp2_with fail
    refine ⟨trivial, ?_⟩
    refine (callsIn_wide.2 (HC.out _ (hD.out.below hbl))).mono ?_
    rintro e w1 ⟨rfl, b1⟩
    have hb1 := hbl.trans (b1.mono hbl.size)
    clear k1 k2 hsz hbl b1
    gi_wp2
    exact ⟨_, results_tmp2 rfl _ _ _, _, rfl, Ints.nil _ _, hb1⟩
end Go.Proofs.YtmfbkelhegdmpaaGreatDoor
/- The walks of the reference's form and record, chapter 12 (journal). -/
namespace Go.Proofs.YtmfbkelhegdmpaaGreatDoor
open Go.RowKit Disk11 Journal12 Sum2

set_option maxHeartbeats 4000000 in
set_option maxRecDepth 100000 in
theorem Rform_any (x : List UInt8) (hx : x.length ≤ 60000) (w : World) :
    Calls Tryz.prog 112 #[.string ⟨x.toArray⟩] w fun e w' => e = .returned (.string ⟨(formJ x).toArray⟩) ∧ Below w.heap.size w w' := by
  have HC := Lib.hid (fun W => rcrc32_any ⟨x.toArray⟩ (by show x.length ≤ _; omega) W)
  obtain ⟨c, hc⟩ : ∃ c : Nat, c = crc32 x := ⟨_, rfl⟩
  have hc32 : c < 4294967296 := by rw [hc]; exact crc32_lt x
  have hF := Lib.hid (formJ_head x)
  rw [← hc] at HC hF
  obtain ⟨C, hC⟩ : ∃ C, C = headCells x.length c := ⟨_, rfl⟩
  have hk : (w.alloc (.cells C 5)).heap[w.heap.size]? = some (.cells C 5 (0, 0)) := World.alloc_heap_new w _
  have hcv := head_string (n := x.length) (c := c) (by omega) hc32 (by rw [← hC]; exact hk)
  have hb : Below w.heap.size w (w.alloc (.cells C 5)) := Go.Joins.below_alloc1 w _
  have hcv2 := one_string 183 (by omega) (w.alloc (.cells C 5))
  rw [World.size_alloc, show ((183 : Nat) : Int) = 183 from rfl] at hcv2
  have hB := Lib.hid hb
  obtain ⟨H, hH⟩ : ∃ H, H = headJ x.length c := ⟨_, rfl⟩
  have hHl : H.length ≤ 9 := by rw [hH]; exact Nat.le_refl _
  rw [← hH] at hcv hF
  rw [hC] at hcv hcv2 hB
  unfold headCells at hcv hcv2 hB
  clear hc hk hb hC hH
  go_enter Tryz.func112, Tryz.ntmps112
  go_wp2_with fail
  refine (HC.out _).mono ?_
  rintro e w1 ⟨rfl, rfl⟩
  go_wp2_with fail
  go_ret
  refine ⟨?_, hB.out.alloc (by simp only [World.size_alloc]; omega) _⟩
  rw [hF.out]
  show Ending.returned (.string ((⟨H.toArray⟩ : ByteArray) ++ ⟨x.toArray⟩ ++ ⟨[(183 : UInt8)].toArray⟩)) = _
  rw [bytes_app, bytes_app]
end Go.Proofs.YtmfbkelhegdmpaaGreatDoor
/- The walk of the reference's record, chapter 12 (journal). -/
namespace Go.Proofs.YtmfbkelhegdmpaaGreatDoor
open Go.RowKit Disk11 Journal12 Sum2

theorem recJ_len {r : List UInt8} (h : r.length < 11) : recJ r = none := recJ_none (by omega)
theorem recJ_no0 {r : List UInt8} {b : UInt8} (h : r[0]? = some b) (hb : b ≠ 183) : recJ r = none := by
  cases hr : recJ r with
  | none => rfl
  | some x => have := recJ_head hr; rw [h] at this; exact absurd (Option.some.inj this) hb
theorem recJ_no3 {r : List UInt8} {b c : UInt8} (h1 : r[1]? = some b) (h3 : r[3]? = some c) (hb : c ≠ 255 - b) : recJ r = none := by
  cases hr : recJ r with
  | none => rfl
  | some x =>
    have e := (recJ_some hr).1
    have e1 : r[1]? = some (UInt8.ofNat (x.length / 256)) := by rw [e]; rfl
    have e3 : r[3]? = some (255 - UInt8.ofNat (x.length / 256)) := by rw [e]; rfl
    rw [h1] at e1; rw [h3] at e3
    rw [Option.some.inj e1, Option.some.inj e3] at hb
    exact absurd rfl hb
theorem recJ_no4 {r : List UInt8} {b c : UInt8} (h1 : r[2]? = some b) (h3 : r[4]? = some c) (hb : c ≠ 255 - b) : recJ r = none := by
  cases hr : recJ r with
  | none => rfl
  | some x =>
    have e := (recJ_some hr).1
    have e1 : r[2]? = some (UInt8.ofNat x.length) := by rw [e]; rfl
    have e3 : r[4]? = some (255 - UInt8.ofNat x.length) := by rw [e]; rfl
    rw [h1] at e1; rw [h3] at e3
    rw [Option.some.inj e1, Option.some.inj e3] at hb
    exact absurd rfl hb
theorem str_atI (y : List UInt8) (t : Nat) (z : Int) (hz : z = (t : Int)) (b : UInt8) (h : y[t]? = some b) (W : World) : (Instr.index 9 (.string ⟨y.toArray⟩) (.int .i64 z)).run Tryz.prog W = .ok (.int .u8 (b.toNat : Int)) W := by
  subst hz; exact str_at y t b h W
theorem u8_neg {b c : UInt8} (h : c ≠ 255 - b) : ((c.toNat : Int) != 255 - (b.toNat : Int)) = true := by
  rw [bne_iff_ne]
  intro e
  apply h
  apply UInt8.toNat_inj.1
  rw [UInt8.toNat_sub]
  have h1 := b.toNat_lt; have h2 := c.toNat_lt
  have h3 : (255 : UInt8).toNat = 255 := rfl
  rw [h3]
  omega
theorem u8_pos (b : UInt8) : (((255 - b : UInt8).toNat : Int) != 255 - (b.toNat : Int)) = false := by
  have h1 := b.toNat_lt
  have h3 : (255 : UInt8).toNat = 255 := rfl
  have : (255 - b : UInt8).toNat = 255 - b.toNat := by rw [UInt8.toNat_sub, h3]; omega
  rw [this]
  have : ((255 - b.toNat : Nat) : Int) = 255 - (b.toNat : Int) := by omega
  rw [this]; simp
def RecPost (s : List UInt8) (a : Nat) (e : Ending) : Prop :=
  match recJ (s.drop a) with
  | none => e = .returned (.tuple #[.string ⟨#[]⟩, .bool false])
  | some x => e = .returned (.tuple #[.string ⟨x.toArray⟩, .bool true])
theorem RecPost.none {s : List UInt8} {a : Nat} {e : Ending} (h : recJ (s.drop a) = none) (he : e = .returned (.tuple #[.string ⟨#[]⟩, .bool false])) : RecPost s a e := by unfold RecPost; rw [h]; exact he
theorem RecPost.some {s x : List UInt8} {a : Nat} {e : Ending} (h : recJ (s.drop a) = some x) (he : e = .returned (.tuple #[.string ⟨x.toArray⟩, .bool true])) : RecPost s a e := by unfold RecPost; rw [h]; exact he

set_option maxHeartbeats 8000000 in
set_option maxRecDepth 100000 in
theorem Rrecord_any (s : List UInt8) (a : Nat) (w : World) (ha : a ≤ s.length) (hs : s.length ≤ 262144) :
    Calls Tryz.prog 140 #[.string ⟨s.toArray⟩, .int .i64 (a : Int)] w fun e w' => RecPost s a e ∧ Below w.heap.size w w' := by
  have hsz : (⟨s.toArray⟩ : ByteArray).size = s.length := rfl
  have hrl : (s.drop a).length = s.length - a := List.length_drop
  by_cases h1 : s.length - a < 11
  · have h1' : decide ((s.length : Int) - (a : Int) < 11) = true := by simp; omega
    have hP := Lib.hid (fun e (he : e = Ending.returned (.tuple #[.string ⟨#[]⟩, .bool false])) => RecPost.none (s := s) (a := a) (recJ_len (by omega)) he)
    go_enter Tryz.func140, Tryz.ntmps140
    go_wp2
    exact bodyPost_ret (results_tmp2 rfl _ _ _) rfl ⟨hP.out _ rfl, Below.refl _ _⟩
  have h1' : decide ((s.length : Int) - (a : Int) < 11) = false := by simp; omega
  have gt : ∀ i, i < 11 → ∃ b, s[a + i]? = some b ∧ (s.drop a)[i]? = some b := fun i hi => by
    have e : s[a + i]? = some (s[a + i]'(by omega)) := List.getElem?_eq_getElem _
    exact ⟨_, e, by rw [List.getElem?_drop]; exact e⟩
  obtain ⟨b0, q0, r0⟩ := gt 0 (by omega)
  obtain ⟨b1, q1, r1⟩ := gt 1 (by omega)
  obtain ⟨b2, q2, r2⟩ := gt 2 (by omega)
  obtain ⟨b3, q3, r3⟩ := gt 3 (by omega)
  obtain ⟨b4, q4, r4⟩ := gt 4 (by omega)
  have i0 := str_atI s (a + 0) (a : Int) (by omega) b0 q0
  have i1 := str_atI s (a + 1) ((a : Int) + 1) (by omega) b1 q1
  have i2 := str_atI s (a + 2) ((a : Int) + 2) (by omega) b2 q2
  have i3 := str_atI s (a + 3) ((a : Int) + 3) (by omega) b3 q3
  have i4 := str_atI s (a + 4) ((a : Int) + 4) (by omega) b4 q4
  clear gt q0 q1 q2 q3 q4
  by_cases g0 : b0 = 183
  case neg =>
    have g0' : ((b0.toNat : Int) != 183) = true := by
      rw [bne_iff_ne]; intro e; exact g0 (UInt8.toNat_inj.1 (by show b0.toNat = 183; omega))
    have hP := Lib.hid (fun e (he : e = Ending.returned (.tuple #[.string ⟨#[]⟩, .bool false])) => RecPost.none (s := s) (a := a) (recJ_no0 r0 g0) he)
    clear i1 i2 i3 i4 r0 r1 r2 r3 r4 g0
    go_enter Tryz.func140, Tryz.ntmps140
    go_wp2
    exact bodyPost_ret (results_tmp2 rfl _ _ _) rfl ⟨hP.out _ rfl, Below.refl _ _⟩
  case pos =>
  have g0' : ((b0.toNat : Int) != 183) = false := by rw [g0]; rfl
  have hl := lenJ_bits r1 r2
  obtain ⟨n, hn⟩ : ∃ n, n = lenJ (s.drop a) := ⟨_, rfl⟩
  have hnb : 256 * (b1.toNat : Int) + (b2.toNat : Int) = (n : Int) := by omega
  have l1 := u8lt b1
  have l2 := u8lt b2
  have hn1 : n < 65536 := by omega
  clear hl r0 g0
  by_cases g3 : b3 = 255 - b1
  case neg =>
    have g3' := u8_neg g3
    have hP := Lib.hid (fun e (he : e = Ending.returned (.tuple #[.string ⟨#[]⟩, .bool false])) => RecPost.none (s := s) (a := a) (recJ_no3 r1 r3 g3) he)
    clear i4 r1 r2 r3 r4 g3 hn hn1
    go_enter Tryz.func140, Tryz.ntmps140
    go_wp2_with fail
    go_region
    go_wp2_with fail
    go_region
    go_wp2
    exact bodyPost_ret (results_tmp2 rfl _ _ _) rfl ⟨hP.out _ rfl, (Below.refl _ w).drew.drew⟩
  case pos =>
  have g3' := u8_pos b1
  rw [← g3] at g3'
  by_cases g4 : b4 = 255 - b2
  case neg =>
    have g4' := u8_neg g4
    have hP := Lib.hid (fun e (he : e = Ending.returned (.tuple #[.string ⟨#[]⟩, .bool false])) => RecPost.none (s := s) (a := a) (recJ_no4 r2 r4 g4) he)
    clear r1 r2 r3 r4 g3 g4 hn hn1
    go_enter Tryz.func140, Tryz.ntmps140
    go_wp2_with fail
    go_region
    go_wp2_with fail
    go_region
    go_wp2
    exact bodyPost_ret (results_tmp2 rfl _ _ _) rfl ⟨hP.out _ rfl, (Below.refl _ w).drew.drew⟩
  case pos =>
  have g4' := u8_pos b2
  rw [← g4] at g4'
  clear r1 r2 r3 r4 g3 g4
  by_cases n1 : n < 1
  · have n1' : decide ((n : Int) < 1) = true := by simp; omega
    have hP := Lib.hid (fun e (he : e = Ending.returned (.tuple #[.string ⟨#[]⟩, .bool false])) => RecPost.none (s := s) (a := a) (recJ_none (.inr (.inl (by omega)))) he)
    clear hn n1
    go_enter Tryz.func140, Tryz.ntmps140
    go_wp2_with fail
    go_region
    go_wp2_with fail
    go_region
    go_wp2
    exact bodyPost_ret (results_tmp2 rfl _ _ _) rfl ⟨hP.out _ rfl, (Below.refl _ w).drew.drew⟩
  have n1' : decide ((n : Int) < 1) = false := by simp; omega
  by_cases n2 : 60000 < n
  · have n2' : decide ((60000 : Int) < n) = true := by simp; omega
    have hP := Lib.hid (fun e (he : e = Ending.returned (.tuple #[.string ⟨#[]⟩, .bool false])) => RecPost.none (s := s) (a := a) (recJ_none (.inr (.inr (.inl (by omega))))) he)
    clear hn n1 n2
    go_enter Tryz.func140, Tryz.ntmps140
    go_wp2_with fail
    go_region
    go_wp2_with fail
    go_region
    go_wp2
    exact bodyPost_ret (results_tmp2 rfl _ _ _) rfl ⟨hP.out _ rfl, (Below.refl _ w).drew.drew⟩
  have n2' : decide ((60000 : Int) < n) = false := by simp; omega
  by_cases n3 : s.length - a < n + 10
  · have n3' : decide ((s.length : Int) - (a : Int) < (n : Int) + 10) = true := by simp; omega
    have hP := Lib.hid (fun e (he : e = Ending.returned (.tuple #[.string ⟨#[]⟩, .bool false])) => RecPost.none (s := s) (a := a) (recJ_none (.inr (.inr (.inr (.inl (by omega)))))) he)
    clear hn n1 n2 n3
    go_enter Tryz.func140, Tryz.ntmps140
    go_wp2_with fail
    go_region
    go_wp2_with fail
    go_region
    go_wp2
    exact bodyPost_ret (results_tmp2 rfl _ _ _) rfl ⟨hP.out _ rfl, (Below.refl _ w).drew.drew⟩
  have n3' : decide ((s.length : Int) - (a : Int) < (n : Int) + 10) = false := by simp; omega
  obtain ⟨x, hx⟩ : ∃ x, x = ((s.drop a).drop 9).take n := ⟨_, rfl⟩
  have hxl : x.length = n := by rw [hx, List.length_take, List.length_drop]; omega
  obtain ⟨y, hy⟩ : ∃ y, y = (s.drop a).take (n + 10) := ⟨_, rfl⟩
  have hs1 : ∀ W, (Instr.slice 9 (.string ⟨s.toArray⟩) (some (.int .i64 (a : Int))) (some (.int .i64 ((a : Int) + 10 + (n : Int)))) none).run Tryz.prog W = .ok (.string ⟨y.toArray⟩) W := fun W => by
    have := sub_mid s a (a + 10 + n) (by omega) (by omega) W
    rw [show a + 10 + n - a = n + 10 by omega, ← hy] at this
    have e : (a : Int) + 10 + (n : Int) = ((a + 10 + n : Nat) : Int) := by omega
    rw [e]
    exact this
  have w1 : IntKind.i64.wrap ((a : Int) + 10) = (a : Int) + 10 := by rw [IntKind.wrap_i64]; omega
  have w2 : IntKind.i64.wrap ((a : Int) + 10 + (n : Int)) = (a : Int) + 10 + (n : Int) := by rw [IntKind.wrap_i64]; omega
  have hs2 : ∀ W, (Instr.slice 9 (.string ⟨s.toArray⟩) (some (.int .i64 ((a : Int) + 9))) (some (.int .i64 ((a : Int) + 9 + (n : Int)))) none).run Tryz.prog W = .ok (.string ⟨x.toArray⟩) W := fun W => by
    have := sub_mid s (a + 9) (a + 9 + n) (by omega) (by omega) W
    rw [show a + 9 + n - (a + 9) = n by omega, ← List.drop_drop, ← hx] at this
    have e : (a : Int) + 9 + (n : Int) = ((a + 9 + n : Nat) : Int) := by omega
    rw [e]
    exact this
  have HF := Lib.hid (fun W => Rform_any x (by omega) W)
  obtain ⟨F, hF⟩ : ∃ F, F = formJ x := ⟨_, rfl⟩
  rw [← hF] at HF
  have hyes : F = y → recJ (s.drop a) = some x := fun e => by
    rw [hx, hn]
    refine recJ_yes ?_
    rw [← hn]
    rintro (g | g | g | g | g)
    · omega
    · exact n1 g
    · exact n2 g
    · omega
    · exact g (by rw [← hx, ← hF, e, hy])
  have hno : F ≠ y → recJ (s.drop a) = none := fun e => by
    refine recJ_none (.inr (.inr (.inr (.inr ?_))))
    rw [← hn, ← hx, ← hF, ← hy]
    exact fun g => e g.symm
  have hY := Lib.hid (fun (e : F = y) => RecPost.some (e := Ending.returned (.tuple #[.string ⟨x.toArray⟩, .bool true])) (hyes e) rfl)
  have hN := Lib.hid (fun (e : F ≠ y) => RecPost.none (e := Ending.returned (.tuple #[.string ⟨#[]⟩, .bool false])) (hno e) rfl)
  have hn2 : n ≤ 60000 := by omega
  have ha2 : a ≤ 262144 := by omega
  clear hx hy hn hF hyes hno n1 n2 n3 hxl
  go_enter Tryz.func140, Tryz.ntmps140
  go_wp2_with fail
  go_region
  go_wp2_with fail
  go_region
  go_wp2_with fail
  go_region_held3 (fun _ => True) (trivial) (first | (go_at_call 112; refine (HF.out _).mono ?_; rintro e w5 ⟨rfl, b5⟩))
  have hb5 := (Below.refl w.heap.size w).drew.drew.drew.trans b5
  clear b5
  generalize hB : (!(F == y)) = B
  cases B with
  | false =>
    have hyf : F = y := by simpa using hB
    clear hB
    go_wp2
    refine bodyPost_ret (results_tmp2 rfl _ _ _) rfl ⟨?_, hb5⟩
    exact hY.out hyf
  | true =>
    have hyf : F ≠ y := by simpa using hB
    clear hB
    go_wp2
    refine bodyPost_ret (results_tmp2 rfl _ _ _) rfl ⟨?_, hb5⟩
    exact hN.out hyf
end Go.Proofs.YtmfbkelhegdmpaaGreatDoor
/- The walks of the reference's walk, Replay and Places, chapter 12 (journal). -/
namespace Go.Proofs.YtmfbkelhegdmpaaGreatDoor
open Go.RowKit Disk11 Journal12 Sum2

theorem offsJ_snoc : ∀ (a : Nat) (l : List (List UInt8)) (x : List UInt8), offsJ a (l ++ [x]) = offsJ a l ++ [a + sizeJ l]
  | a, [], x => rfl
  | a, y :: l, x => by
    rw [List.cons_append]; unfold offsJ; rw [offsJ_snoc, sizeJ_cons, List.cons_append]; congr 3; omega

set_option maxHeartbeats 8000000 in
set_option maxRecDepth 100000 in
theorem Rwalk_any (d : Dev) (v : Value) (f b : Nat) (w : World) (h : DiskIs w d v) (hg : Disk11.Good d) (hf : f + b ≤ d.1.length) :
    Calls Tryz.prog 104 #[v, .agg #[.int .i64 (f : Int), .int .i64 (b : Int)]] w fun e w' => ∃ va vb, e = .returned (.tuple #[va, vb, .int .i64 (sizeJ (recsJ (regJ d ((f : Int), (b : Int)))) : Nat)]) ∧
      Txt w' w.heap.size va (recsJ (regJ d ((f : Int), (b : Int)))) ∧ Ints w' w.heap.size vb (offsJ 0 (recsJ (regJ d ((f : Int), (b : Int))))) ∧ Below w.heap.size w w' := by
  have hl := hg.2.1
  have hrl := regJ_length hg hf
  have HR := Lib.hid (fun W h => Rread_any d v f b 0 (64 * b) W h hg hf (by omega))
  rw [List.drop_zero, List.take_of_length_le (by omega), show ((64 * b : Nat) : Int) = 64 * (b : Int) by omega, show ((0 : Nat) : Int) = 0 from rfl] at HR
  have HL := Lib.hid (fun W => Rlength_any (f : Int) (b : Int) W (by omega) (by omega))
  have hD := Lib.hid h
  obtain ⟨S, hS⟩ : ∃ S, S = regJ d ((f : Int), (b : Int)) := ⟨_, rfl⟩
  rw [← hS] at HR hrl ⊢
  have hSl : S.length ≤ 262144 := by omega
  obtain ⟨L, hL⟩ : ∃ L, L = recsJ S := ⟨_, rfl⟩
  rw [← hL]
  have hLl : L.length ≤ 262144 := by
    have h1 := size_ge L
    have h2 := recs_size S
    rw [← hL] at h2; omega
  have HX := Lib.hid (fun a W h => Rrecord_any S a W h hSl)
  have hL' := Lib.hid (show L = [] ++ walkJ (S.length + 1) (S.drop 0) from hL)
  clear hS hg hL hrl
  obtain ⟨ab, cb, ac, cc, rfl, _, _, hbc, _⟩ := h.form
  clear h hbc
  obtain ⟨k1, k2, hsz, hbl⟩ := alloc2 w (.cells #[.slice ab d.1.length cb, .slice ac d.2.length cc] 29) (.cells #[.int .i64 (f : Int), .int .i64 (b : Int)] 65)
  have c0 := cell2_0 k1
  have c1 := cell2_1 k1
  have r0 := cell2_0 k2
  have r1 := cell2_1 k2
  have B := Lib.hid hbl.drew
  clear k1 k2 hsz hbl
  go_enter Tryz.func104, Tryz.ntmps104
  go_wp2_with fail
  go_region_held3 (fun V => V.cell? ⟨w.heap.size, 0, none⟩ = some (.slice ab d.1.length cb) ∧ V.cell? ⟨w.heap.size, 1, none⟩ = some (.slice ac d.2.length cc) ∧ V.cell? ⟨w.heap.size + 1, 0, none⟩ = some (.int .i64 (f : Int)) ∧ V.cell? ⟨w.heap.size + 1, 1, none⟩ = some (.int .i64 (b : Int)))
    (first | exact ⟨c0, c1, r0, r1⟩ | exact ⟨o0, o1, o2, o3⟩ | exact ⟨p0, p1, p2, p3⟩ | go_keep)
    (first
      | (go_at_call 108; refine (HL.out _).mono ?_; rintro e w5 ⟨rfl, b5⟩
         have o0 := cell_below b5 c0; have o1 := cell_below b5 c1; have o2 := cell_below b5 r0; have o3 := cell_below b5 r1
         have B5 := Lib.hid (B.out.trans (b5.mono B.out.size)))
      | (go_at_call 107; refine (HR.out _ (hD.out.below B5.out)).mono ?_; rintro e w6 ⟨rfl, b6⟩
         have p0 := cell_below b6 o0; have p1 := cell_below b6 o1; have p2 := cell_below b6 o2; have p3 := cell_below b6 o3
         have B6 := Lib.hid (B5.out.trans (b6.mono B5.out.size))))
  have hb6 := B6.out
  clear c0 c1 r0 r1 o0 o1 o2 o3 p0 p1 p2 p3 B B5 b5 b6 HL HR
  go_wp2
  go_loopw [8, 9, 10] (fun va vb i wr => ∃ (pre : List (List UInt8)) (a f : Nat), i = .int .i64 (a : Int) ∧ Hid (L = pre ++ walkJ (f + 1) (S.drop a)) ∧ a ≤ S.length ∧ S.length - a ≤ f ∧ Hid (a = sizeJ pre) ∧ Txt wr w.heap.size va pre ∧ Ints wr w.heap.size vb (offsJ 0 pre) ∧ Below w.heap.size w wr) (fun _ _ i _ => S.length - (intOf i).toNat)
  case atStart => exact ⟨[], 0, S.length, rfl, hL', Nat.zero_le _, Nat.le_refl _, Lib.hid rfl, Txt.nil _ _, Ints.nil _ _, hb6⟩
  case round =>
    obtain ⟨pre, a, f, rfl, hLp, ha, hfa, hap, htx, hin, hblw⟩ := hrel
    have hpl : pre.length ≤ 262144 := by
      have := congrArg List.length hLp.out
      rw [List.length_append] at this; omega
    have hpl2 : (offsJ 0 pre).length ≤ 262144 := by rw [offsJ_length]; exact hpl
    go_wp2_with fail
    refine (HX.out a _ ha).mono ?_
    rintro e w7 ⟨hp, b7⟩
    unfold RecPost at hp
    have hb7 := hblw.trans (b7.mono hblw.size)
    have t7 := htx.below b7
    have n7 := hin.below b7
    cases hrec : recJ (S.drop a) with
    | none =>
      rw [hrec] at hp
      obtain rfl := hp
      have hLe : L = pre := by rw [hLp.out, walkJ_none f hrec, List.append_nil]
      go_wp2
      have hs : sizeJ L = a := by rw [hLe, ← hap.out]
      refine bodyPost_ret (results_tmp3' rfl _ _ _) rfl ?_
      rw [hs, hLe]
      exact ⟨_, _, rfl, t7, n7, hb7⟩
    | some x =>
      rw [hrec] at hp
      obtain rfl := hp
      have hxs := recJ_some hrec
      have hxl : a + (x.length + 10) ≤ S.length := by
        have := congrArg List.length hxs.1
        rw [List.length_append, formJ_length, List.length_drop] at this; omega
      have hLn := hLp.out
      rw [walkJ_some f hrec] at hLn
      obtain ⟨f', rfl⟩ : ∃ f', f = f' + 1 := ⟨f - 1, by omega⟩
      have hL2 := Lib.hid (show L = (pre ++ [x]) ++ walkJ (f' + 1) (S.drop (a + (x.length + 10))) by rw [hLn, List.drop_drop]; simp)
      have ha2 := Lib.hid (show a + (x.length + 10) = sizeJ (pre ++ [x]) by rw [sizeJ_snoc, ← hap.out])
      have ho2 := Lib.hid (show offsJ 0 pre ++ [a] = offsJ 0 (pre ++ [x]) by rw [offsJ_snoc, Nat.zero_add, ← hap.out])
      clear hxs hLn hrec hLp hap htx hin hblw b7
      go_wp2_with (first
        | (at_builtin; refine app_str (n := x) rfl rfl w.heap.size rfl t7 (by simp [go_sem]) (by omega) hb7.size ?_; intro g cap w8 t8 b8 hg8 hgr8
           have n8 := own_two n7 t7 hgr8 (by decide)
           have hb8 := hb7.trans b8)
        | (at_builtin; refine app_int (n := a) rfl rfl w.heap.size rfl n8 (by simp [go_sem]) (by omega) hb8.size ?_; intro g' cap' w9 n9 b9 hg9 hgr9
           have t9 := own_two t8 n8 hgr9 (by decide)
           have hb9 := hb8.trans b9))
      rw [ho2.out] at n9
      exact ⟨⟨pre ++ [x], a + (x.length + 10), f', congrArg (Value.int .i64) (by omega), hL2, hxl, by omega, ha2, t9, n9, hb9⟩, by simp [intOf]; omega⟩

theorem sizeJ_le {S : List UInt8} (h : S.length ≤ 262144) : sizeJ (recsJ S) ≤ 262144 := Nat.le_trans (recs_size S) h
set_option maxHeartbeats 4000000 in
set_option maxRecDepth 100000 in
theorem RReplay_any (d : Dev) (v : Value) (f b : Int) (w : World) (h : DiskIs w d v) :
    Calls Tryz.prog 60 #[v, .agg #[.int .i64 f, .int .i64 b]] w fun e w' => ∃ v', e = .returned (.tuple #[v', .int .i64 ((replayJ d (f, b)).2.1 : Nat), .int .i64 ((replayJ d (f, b)).2.2 : Nat)]) ∧ Txt w' w.heap.size v' (replayJ d (f, b)).1 ∧ Below w.heap.size w w' := by
  have HC := Lib.hid (fun W h => RJCheck_any d v f b W h)
  have hD := Lib.hid h
  obtain ⟨r, hr⟩ : ∃ r, r = replayJ d (f, b) := ⟨_, rfl⟩
  rw [← hr]
  unfold replayJ at hr
  obtain ⟨ab, cb, ac, cc, rfl, _, _, hbc, _⟩ := h.form
  clear h hbc
  obtain ⟨k1, k2, hsz, hbl⟩ := alloc2 w (.cells #[.slice ab d.1.length cb, .slice ac d.2.length cc] 29) (.cells #[.int .i64 f, .int .i64 b] 65)
  by_cases h0 : chkJ d (f, b) = 0
  · rw [h0, if_neg (by simp)] at hr
    rw [h0] at HC
    obtain ⟨hg, f', b', e1, hb1, hfb⟩ := chkJ_ok h0
    simp only [Prod.mk.injEq] at e1
    obtain ⟨rfl, rfl⟩ := e1
    have HW := Lib.hid (fun W h => Rwalk_any d (.agg #[.slice ab d.1.length cb, .slice ac d.2.length cc]) f' b' W h hg hfb)
    obtain ⟨L, hL⟩ : ∃ L, L = recsJ (regJ d ((f' : Int), (b' : Int))) := ⟨_, rfl⟩
    rw [← hL] at HW hr
    subst hr
    clear hL h0 hg
    go_enter Tryz.func60, Tryz.ntmps60
    go_wp2_with fail
    refine (HC.out _ (hD.out.below hbl)).mono ?_
    rintro e w1 ⟨rfl, b1⟩
    have k1' := heap_below k1 b1
    have k2' := heap_below k2 b1
    have hb1 := hbl.trans (b1.mono hbl.size)
    have c0 := cell2_0 k1'
    have c1 := cell2_1 k1'
    have r0 := cell2_0 k2'
    have r1 := cell2_1 k2'
    have hw1 := hb1.size
    clear k1 k2 hsz hbl b1 k1' k2'
    go_wp2_with fail
    refine (HW.out _ (hD.out.below hb1)).mono ?_
    rintro e w2 ⟨va, vb, rfl, ta, ib, b2⟩
    have hb2 := hb1.trans (b2.mono hb1.size)
    obtain ⟨iad, icp, rfl⟩ := ta.slice
    obtain ⟨jad, jcp, rfl⟩ := ib.slice
    go_wp2
    exact bodyPost_ret (results_tmp3' rfl _ _ _) rfl ⟨_, rfl, ta.lower hw1, hb2⟩
  · rw [if_pos h0] at hr
    obtain ⟨c, hc⟩ : ∃ c, c = chkJ d (f, b) := ⟨_, rfl⟩
    rw [← hc] at h0 HC hr
    subst hr
    have h0' : ((c : Int) == 0) = false := by simp; exact h0
    clear hc h0
    go_enter Tryz.func60, Tryz.ntmps60
    go_wp2_with fail
    refine (HC.out _ (hD.out.below hbl)).mono ?_
    rintro e w1 ⟨rfl, b1⟩
    have hb1 := hbl.trans (b1.mono hbl.size)
    clear k1 k2 hsz hbl b1
    go_wp2
    exact bodyPost_ret (results_tmp3' rfl _ _ _) rfl ⟨_, rfl, Txt.nil _ _, hb1⟩

set_option maxHeartbeats 4000000 in
set_option maxRecDepth 100000 in
theorem RPlaces_any (d : Dev) (v : Value) (f b : Int) (w : World) (h : DiskIs w d v) :
    Calls Tryz.prog 61 #[v, .agg #[.int .i64 f, .int .i64 b]] w fun e w' => ∃ v', e = .returned (.tuple #[v', .int .i64 ((placesJ d (f, b)).2 : Nat)]) ∧ Ints w' w.heap.size v' (placesJ d (f, b)).1 ∧ Below w.heap.size w w' := by
  have HC := Lib.hid (fun W h => RJCheck_any d v f b W h)
  have hD := Lib.hid h
  obtain ⟨r, hr⟩ : ∃ r, r = placesJ d (f, b) := ⟨_, rfl⟩
  rw [← hr]
  unfold placesJ at hr
  obtain ⟨ab, cb, ac, cc, rfl, _, _, hbc, _⟩ := h.form
  clear h hbc
  obtain ⟨k1, k2, hsz, hbl⟩ := alloc2 w (.cells #[.slice ab d.1.length cb, .slice ac d.2.length cc] 29) (.cells #[.int .i64 f, .int .i64 b] 65)
  by_cases h0 : chkJ d (f, b) = 0
  · rw [h0, if_neg (by simp)] at hr
    rw [h0] at HC
    obtain ⟨hg, f', b', e1, hb1, hfb⟩ := chkJ_ok h0
    simp only [Prod.mk.injEq] at e1
    obtain ⟨rfl, rfl⟩ := e1
    have HW := Lib.hid (fun W h => Rwalk_any d (.agg #[.slice ab d.1.length cb, .slice ac d.2.length cc]) f' b' W h hg hfb)
    obtain ⟨L, hL⟩ : ∃ L, L = recsJ (regJ d ((f' : Int), (b' : Int))) := ⟨_, rfl⟩
    rw [← hL] at HW hr
    subst hr
    clear hL h0 hg
    go_enter Tryz.func61, Tryz.ntmps61
    go_wp2_with fail
    refine (HC.out _ (hD.out.below hbl)).mono ?_
    rintro e w1 ⟨rfl, b1⟩
    have k1' := heap_below k1 b1
    have k2' := heap_below k2 b1
    have hb1 := hbl.trans (b1.mono hbl.size)
    have c0 := cell2_0 k1'
    have c1 := cell2_1 k1'
    have r0 := cell2_0 k2'
    have r1 := cell2_1 k2'
    have hw1 := hb1.size
    clear k1 k2 hsz hbl b1 k1' k2'
    go_wp2_with fail
    refine (HW.out _ (hD.out.below hb1)).mono ?_
    rintro e w2 ⟨va, vb, rfl, ta, ib, b2⟩
    have hb2 := hb1.trans (b2.mono hb1.size)
    obtain ⟨iad, icp, rfl⟩ := ta.slice
    obtain ⟨jad, jcp, rfl⟩ := ib.slice
    go_wp2
    exact bodyPost_ret (results_tmp2 rfl _ _ _) rfl ⟨_, rfl, ib.lower hw1, hb2⟩
  · rw [if_pos h0] at hr
    obtain ⟨c, hc⟩ : ∃ c, c = chkJ d (f, b) := ⟨_, rfl⟩
    rw [← hc] at h0 HC hr
    subst hr
    have h0' : ((c : Int) == 0) = false := by simp; exact h0
    clear hc h0
    go_enter Tryz.func61, Tryz.ntmps61
    go_wp2_with fail
    refine (HC.out _ (hD.out.below hbl)).mono ?_
    rintro e w1 ⟨rfl, b1⟩
    have hb1 := hbl.trans (b1.mono hbl.size)
    clear k1 k2 hsz hbl b1
    go_wp2
    exact bodyPost_ret (results_tmp2 rfl _ _ _) rfl ⟨_, rfl, Ints.nil _ _, hb1⟩
end Go.Proofs.YtmfbkelhegdmpaaGreatDoor
