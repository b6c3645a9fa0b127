/- The walk of Replay, chapter 12 (journal). -/
import Derived.Test.YthhghggaoljcbaaDoorJournalH
namespace Go.Proofs.YthhghggaoljcbaaDoor
open Go.RowKit Disk11 Journal12 Sum2

attribute [local go_sem] Oper.semAt_some

set_option maxHeartbeats 4000000 in
set_option maxRecDepth 100000 in
theorem Replay_any (d : Dev) (v : Value) (f b : Int) (w : World) (h : DiskIs w d v) (ht : Tab w) :
    Calls Tryd.prog 20 #[v, .agg #[.int .i64 f, .int .i64 b]] w fun e w' => ∃ v', e = .returned (.tuple #[v', .int .i64 ((replayJ d (f, b)).2.1 : Nat), .int .i64 ((replayJ d (f, b)).2.2 : Nat)]) ∧ Txt w' w.heap.size v' (replayJ d (f, b)).1 ∧ Below w.heap.size w w' := by
  refine (callsIn_wide (n := 9)).1 ?_
  have HC := Lib.hid (fun W h => JCheck_any d v f b W h)
  have hD := Lib.hid h
  obtain ⟨r, hr⟩ : ∃ r, r = replayJ d (f, b) := ⟨_, rfl⟩
  rw [← hr]
  unfold replayJ at hr
  obtain ⟨ab, cb, ac, cc, rfl, _, _, hbc, _⟩ := h.form
  clear h hbc
  obtain ⟨k1, k2, hsz, hbl⟩ := alloc2 w (.cells #[.slice ab d.1.length cb, .slice ac d.2.length cc] 25) (.cells #[.int .i64 f, .int .i64 b] 27)
  by_cases h0 : chkJ d (f, b) = 0
  · rw [h0, if_neg (by simp)] at hr
    rw [h0] at HC
    obtain ⟨hg, f', b', e1, hb1, hfb⟩ := chkJ_ok h0
    simp only [Prod.mk.injEq] at e1
    obtain ⟨rfl, rfl⟩ := e1
    have hl := hg.2.1
    have HR := Lib.hid (fun W h => region_any d (.agg #[.slice ab d.1.length cb, .slice ac d.2.length cc]) f' b' W h hg hfb)
    have hrl := regJ_length hg hfb
    obtain ⟨S, hS⟩ : ∃ S, S = regJ d ((f' : Int), (b' : Int)) := ⟨_, rfl⟩
    rw [← hS] at HR hrl hr
    have hSl : S.length ≤ 262144 := by omega
    clear hS hg h0 hrl
    have hp := fun n c W => records_any n c W
    refine callsIn_of_wp_marks Tryd.func20 rfl trivial ?_ rfl
    simp only [Tryd.ntmps20, List.size_toArray, List.length_cons, List.length_nil, Nat.reduceAdd, Nat.reduceSub, Array.replicate_succ, Array.replicate_zero, List.push_toArray, List.append_toArray, List.nil_append, List.cons_append]
    gi_wp2_with fail
    refine ⟨trivial, ?_⟩
    refine (callsIn_wide.2 (HC.out _ (hD.out.below hbl))).mono ?_
    rintro e w1 ⟨rfl, b1⟩
    have k1' := heap_below k1 b1
    have k2' := heap_below k2 b1
    have hb1 := Lib.hid (hbl.trans (b1.mono hbl.size))
    have c0 := cell2_0 k1'
    have c1 := cell2_1 k1'
    have r0 := cell2_0 k2'
    have r1 := cell2_1 k2'
    clear k1 k2 hsz hbl b1 k1' k2'
    gi_wp2_with fail
    refine ⟨trivial, ?_⟩
    refine (callsIn_wide.2 (HR.out _ (hD.out.below hb1.out))).mono ?_
    rintro e w2 ⟨rfl, b2⟩
    have hb2 := Lib.hid (hb1.out.trans (b2.mono hb1.out.size))
    clear b2 c0 c1 r0 r1
    gi_wp2_with fail
    refine ⟨trivial, ?_⟩
    refine (hp _ _ _).mono ?_
    rintro e w4 ⟨rfl, rfl⟩
    clear hp
    gi_wp2_with fail
    obtain ⟨L, hL⟩ : ∃ L, L = recsAt 0 (recsJ S) := ⟨_, rfl⟩
    have hLs : L.map (·.2) = recsJ S := by rw [hL, recsAt_snd]
    have hLl : L.length ≤ 262144 := by
      have h1 := size_ge (recsJ S)
      have h2 := recs_size S
      rw [hLs.symm, List.length_map] at h1
      rw [hLs.symm] at h2
      omega
    obtain ⟨W0, hW0⟩ : ∃ W0, ((w2.alloc (.cells #[.string ⟨S.toArray⟩, .int .i64 0, .bool false] 85)).alloc (.cells #[.slice none 0 0] 22)).alloc (.cells #[.pointer (some ⟨w2.heap.size, 0, none⟩)] 83) = W0 := ⟨_, rfl⟩
    rw [hW0]
    have hs0 : W0.heap.size = w2.heap.size + 3 := by rw [← hW0]; simp
    have z0 : W0.heap[w2.heap.size]? = some (.cells (curCells S 0 false) 85 (0, 0)) := by
      rw [← hW0, Below.heap_alloc _ _ _ (by simp only [World.size_alloc]; omega), Below.heap_alloc _ _ _ (by simp)]; exact World.alloc_heap_new w2 _
    have z1 : Boxed W0 (w2.heap.size + 1) 22 (.slice none 0 0) := by
      unfold Boxed
      rw [← hW0, Below.heap_alloc _ _ _ (by simp)]
      have := World.alloc_heap_new (w2.alloc (.cells #[.string ⟨S.toArray⟩, .int .i64 0, .bool false] 85)) (.cells #[.slice none 0 0] 22)
      rwa [World.size_alloc] at this
    have z2 : W0.heap[w2.heap.size + 1 + 1]? = some (.cells #[.pointer (some ⟨w2.heap.size, 0, none⟩)] 83 (0, 0)) := by
      rw [← hW0]
      have := World.alloc_heap_new ((w2.alloc (.cells #[.string ⟨S.toArray⟩, .int .i64 0, .bool false] 85)).alloc (.cells #[.slice none 0 0] 22)) (.cells #[.pointer (some ⟨w2.heap.size, 0, none⟩)] 83)
      rwa [World.size_alloc, World.size_alloc] at this
    have hb0 : Below w.heap.size w W0 := by
      rw [← hW0]
      exact ((hb2.out.alloc hb2.out.size _).alloc (by rw [World.size_alloc]; have := hb2.out.size; omega) _).alloc (by rw [World.size_alloc, World.size_alloc]; have := hb2.out.size; omega) _
    have hsz2 := hb2.out.size
    clear hW0
    refine range_v rfl (by omega) (gf := 80) (lb := #[.pointer (some ⟨w2.heap.size + 1 + 1, 0, none⟩)]) rfl trivial (enters_of Tryd.func80 (by kernel_rfl) rfl)
      (records1_any _ _ _ S hSl L hL) z0 (fun _ => rfl) (RepI w w2.heap.size (w2.heap.size + 1) (w2.heap.size + 1 + 1)) (fun _ _ _ => False) (RepI.mine w _ _ _ _ ht hsz2 (by omega) (by omega) (by omega)) (fun _ _ h => h.2.1) (fun _ => ⟨fun _ _ _ h _ => h, fun _ _ _ _ h _ _ _ => h⟩)
      (fun W hb => by
        have hbl := hb0.trans (hb.mono hb0.size)
        exact ⟨⟨_, (hb.block _ (by omega)).trans z1, Txt.nil _ _⟩, ⟨(hb.block _ (by omega)).trans z2, ht.below hbl⟩, hbl, _, (hb.block _ (by omega)).trans z0⟩)
      (fun x => { tmps := #[.agg #[.slice ab d.1.length cb, .slice ac d.2.length cc], .agg #[.int .i64 (f' : Int), .int .i64 (b' : Int)], .pointer (some ⟨w.heap.size, 0, none⟩), .pointer (some ⟨w.heap.size + 1, 0, none⟩), .slice none 0 0, .int .i64 0, .int .i64 0, .int .i64 0, .pointer (some ⟨w2.heap.size, 0, none⟩), .pointer (some ⟨w2.heap.size + 1, 0, none⟩), undef, .string ⟨x.2.toArray⟩, .agg #[.slice ab d.1.length cb, .slice ac d.2.length cc], .agg #[.int .i64 (f' : Int), .int .i64 (b' : Int)], .int .i64 0, .int .i64 0, .bool false, undef, .agg #[.slice ab d.1.length cb, .slice ac d.2.length cc], .agg #[.int .i64 (f' : Int), .int .i64 (b' : Int)], .string ⟨S.toArray⟩, .agg #[.string ⟨S.toArray⟩, .int .i64 0, .bool false], .pointer (some ⟨w2.heap.size, 0, none⟩), .pointer (some ⟨w2.heap.size, 0, none⟩), .func (.func 80) #[] #[.pointer (some ⟨w2.heap.size + 1 + 1, 0, none⟩)], .int .i64 (x.1 : Int), .string ⟨x.2.toArray⟩, undef, undef, undef, undef, undef, undef, undef, undef, undef], defers := [] }) ?assign ?body ?done ?stop
    case assign =>
      intro l x W K hK
      unfold recEnc
      gi_wp2
      exact hK
    case body =>
      rintro l pre x post W hx ⟨⟨v, q1, q2⟩, q3, q4, cv, q5⟩
      have hlen := congrArg List.length hx
      rw [List.length_append, List.length_cons] at hlen
      have hpl : pre.length ≤ 262144 := by omega
      have hw := q4.size
      obtain ⟨i0, hi, hz0, hz1, hz2⟩ := info_parts infoStr
      have hq2 := q2
      unfold Txt at hq2
      rw [List.length_map] at hq2
      have u1 := q1.cell
      obtain ⟨q3a, q3b⟩ := q3
      have HE := Lib.hid (fun (v' : Value) (w' : World) (hown : w'.ownsRow w.heap.size 9 1 v' (pre.length + 1) (strVals (pre.map (·.2)) ++ [.string ⟨x.2.toArray⟩])) (hgr : (W.alloc (.cells #[.string ⟨x.2.toArray⟩] 9)).grownBy w' v.ownBlock) =>
        And.intro (Boxed.appended q1 (by decide) hq2 hw (by omega) hown hgr) (And.intro (kept_app (v' := v') hq2 hgr q3a (by decide) (by omega : w2.heap.size + 1 + 1 ≠ w2.heap.size + 1)) (kept_app (v' := v') hq2 hgr q5 (by decide) (by omega : w2.heap.size ≠ w2.heap.size + 1))))
      have hq4 := Lib.hid q4
      have hq5 := Lib.hid q5
      clear hlen hx hLs hL q3a q3b q4 z0 z1 z2 hb0 hs0 q5
      gi_wp2_with (gi_at_builtin; refine wpListIn_append_own _ rfl _ _ 22 rfl w.heap.size 9 i0 (.string ⟨#[]⟩) 1 16 Tryd.underlying22 hi hz0 hz1 hz2 rfl (by decide) _ _ _ rfl (World.ownsRow.alloc hq2 _) ⟨W.heap.size, 0, none⟩ 1 1 [.string ⟨x.2.toArray⟩] rfl rfl (cell_one_new _ _ _) (by intro u hu; simp at hu; subst hu; rfl) (by unfold maxLen; omega) (by omega) (by rw [World.size_alloc]; omega) ?_
                   intro v' w' hown hgr _
                   obtain ⟨⟨a1, a2, a3, a4, a5⟩, a6, a7⟩ := HE.out v' w' hown hgr
                   obtain ⟨g9, cap9, rfl⟩ := ownsRow_succ hown
                   have a8 := a1.cell
                   have a9 := a1.frozen)
      have hbl9 := hq4.out.trans (a5.mono (Nat.le_refl _))
      refine ⟨a4.from _, a7.trans hq5.out.symm, ⟨⟨_, a2, ?_⟩, ⟨a6, ht.below hbl9⟩, hbl9, _, a7⟩⟩
      unfold Txt
      rw [List.map_append, strVals_append, List.length_append, List.length_map]
      exact a3
    case done =>
      rintro D W hD ⟨⟨v, q1, q2⟩, q3, q4, q5⟩ hz hK
      have u1 := q1.cell
      obtain ⟨u2, u3, u4, _⟩ := cur_facts hz
      rw [hLs] at q2
      have hs9 := hb0.size
      clear hL hLs z0 z1 z2 hb0 hs0 q1 q3 q5 hz
      gi_wp2_with fail
      gi_region
      gi_wp2
      subst hr
      refine ⟨by simp, .inl ⟨_, _, rfl, run_takeDeferred (show (W.drew).heap[D]? = _ from hK), ?_⟩⟩
      have hb4 : Below w.heap.size w W.drew := q4.drew
      have hown := q2.drew
      refine ⟨_, results_tmp3' rfl _ _ _, _, rfl, ?_, hb4.trans (belowK_b (w := w) (Nat.le_refl _) W.drew D _ _ (by omega) (show W.drew.heap[D]? = _ from hK) rfl rfl)⟩
      exact ownsRow_putObj hown _ (show W.drew.heap[D]? = _ from hK) rfl
    case stop =>
      rintro D j pre W _ _ h _
      exact h.elim
  · rw [if_pos h0] at hr
    obtain ⟨c, hc⟩ : ∃ c, c = chkJ d (f, b) := ⟨_, rfl⟩
    rw [← hc] at h0 HC hr
    subst hr
    have h0' : ((c : Int) == 0) = false := by simp; exact h0
    clear hc h0
    refine callsIn_of_wp_marks Tryd.func20 rfl trivial ?_ rfl
    simp only [Tryd.ntmps20, List.size_toArray, List.length_cons, List.length_nil, Nat.reduceAdd, Nat.reduceSub, Array.replicate_succ, Array.replicate_zero, List.push_toArray, List.append_toArray, List.nil_append, List.cons_append]
    gi_wp2_with fail
    refine ⟨trivial, ?_⟩
    refine (callsIn_wide.2 (HC.out _ (hD.out.below hbl))).mono ?_
    rintro e w1 ⟨rfl, b1⟩
    have hb1 := hbl.trans (b1.mono hbl.size)
    clear k1 k2 hsz hbl b1
    gi_wp2
    exact ⟨_, results_tmp3' rfl _ _ _, _, rfl, Txt.nil _ _, hb1⟩
end Go.Proofs.YthhghggaoljcbaaDoor
