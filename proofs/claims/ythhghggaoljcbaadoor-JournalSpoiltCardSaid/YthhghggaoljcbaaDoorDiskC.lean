/- The walks of Clone, clone and copied, chapter 11 (disk). -/
import Derived.Test.YthhghggaoljcbaaDoorDiskB
import Derived.Test.YthhghggaoljcbaaDoorKitAll
namespace Go.Proofs.YthhghggaoljcbaaDoor
open Go.RowKit Disk11

theorem infoWr : (Tryd.prog.info? 73).map (fun i => (i.zero, i.size, i.bytes)) = some (some (.agg #[.int .i64 0, .string ⟨#[]⟩]), 2, 24) := by kernel_rfl
theorem strVals_one (l : List (List UInt8)) : ∀ u ∈ strVals l, u.oneCell' = true := by
  intro u hu
  unfold strVals at hu
  rw [List.mem_map] at hu
  obtain ⟨b, _, rfl⟩ := hu
  rfl
theorem wrVals_one (l : List Wr) : ∀ u ∈ wrVals l, u.oneCell' = true := by
  intro u hu
  unfold wrVals at hu
  rw [List.mem_flatMap] at hu
  obtain ⟨b, _, hb⟩ := hu
  simp at hb
  rcases hb with rfl | rfl <;> rfl

set_option maxHeartbeats 1000000 in
set_option maxRecDepth 100000 in
theorem cloneS_any (l : List (List UInt8)) (v : Value) (w : World) (h : Row w 1 v l.length (strVals l)) (hl : l.length ≤ 4096) :
    Calls Tryd.prog 91 #[v] w fun e w' => ∃ v', e = .returned v' ∧ w'.ownsRow w.heap.size 9 1 v' l.length (strVals l) ∧ Below w.heap.size w w' := by
  obtain ⟨ad, c, rfl, hc⟩ := h.slice
  have q22 : ∀ (w : World) (a : Option Addr) (n c n' c' : Nat), (binOp .eql 22 (.slice a n c) (.slice none n' c')).run Tryd.prog w = .ok (.bool a.isNone) w := fun w a n c n' c' => Lib.run_eql_slice_nil w _ _ a n c n' c' Tryd.underlying22
  cases ad with
  | none =>
    have h0 : l = [] := by
      cases l with
      | nil => rfl
      | cons x l =>
        obtain ⟨a, ha, _⟩ := h.cell (strVals_at (x :: l) 0 (by simp))
        cases ha
    subst h0
    go_enter Tryd.func91, Tryd.ntmps91
    go_wp2
    go_ret
    exact ⟨_, rfl, World.ownsRow_nil _ _ _ _, Below.refl _ _⟩
  | some a =>
    obtain ⟨i0, hi, hz0, hz1, hz2⟩ := info_parts infoStr
    have hq : ∀ j u, (strVals l)[j]? = some u → (w.alloc (.cells #[] 9)).cell? (a.add j) = some u := by
      intro j u hu
      obtain ⟨a', ha, hcu⟩ := h.cell hu
      cases ha
      exact cell_below ((Below.refl _ w).alloc (Nat.le_refl _) _) hcu
    have hQ := Lib.hid hq
    clear hq h
    go_enter Tryd.func91, Tryd.ntmps91
    go_wp2_with (at_builtin; refine wpList_append_own _ rfl _ _ 22 rfl w.heap.size 9 i0 (.string ⟨#[]⟩) 1 16 Tryd.underlying22 hi hz0 hz1 hz2 rfl (by decide) _ _ _ rfl (World.ownsRow_made w #[] 0 (Nat.le_refl _) (Nat.zero_le _) (by simp)) a l.length c (strVals l) rfl (by rw [strVals_length, Nat.mul_one]) hQ.out (strVals_one l) (by unfold maxLen; omega) (by omega) (by simp) ?_; intro v' w1 hown hgrow _)
    go_ret
    refine ⟨_, rfl, by rw [Nat.zero_add, List.nil_append] at hown; exact hown, ?_⟩
    exact ((Below.refl _ w).alloc (Nat.le_refl _) _).grown hgrow (by simp) (fun j e => by cases e; exact Nat.le_refl _)

set_option maxHeartbeats 1000000 in
set_option maxRecDepth 100000 in
theorem cloneW_any (l : List Wr) (v : Value) (w : World) (h : Row w 2 v l.length (wrVals l)) (hl : l.length ≤ 4096) :
    Calls Tryd.prog 92 #[v] w fun e w' => ∃ v', e = .returned v' ∧ w'.ownsRow w.heap.size 73 2 v' l.length (wrVals l) ∧ Below w.heap.size w w' := by
  obtain ⟨ad, c, rfl, hc⟩ := h.slice
  have q22 : ∀ (w : World) (a : Option Addr) (n c n' c' : Nat), (binOp .eql 23 (.slice a n c) (.slice none n' c')).run Tryd.prog w = .ok (.bool a.isNone) w := fun w a n c n' c' => Lib.run_eql_slice_nil w _ _ a n c n' c' Tryd.underlying23
  cases ad with
  | none =>
    have h0 : l = [] := by
      cases l with
      | nil => rfl
      | cons x l =>
        obtain ⟨a, ha, _⟩ := h.cell (wrVals_at (x :: l) 0 (by simp)).1
        cases ha
    subst h0
    go_enter Tryd.func92, Tryd.ntmps92
    go_wp2
    go_ret
    exact ⟨_, rfl, World.ownsRow_nil _ _ _ _, Below.refl _ _⟩
  | some a =>
    obtain ⟨i0, hi, hz0, hz1, hz2⟩ := info_parts infoWr
    have hq : ∀ j u, (wrVals l)[j]? = some u → (w.alloc (.cells #[] 73)).cell? (a.add j) = some u := by
      intro j u hu
      obtain ⟨a', ha, hcu⟩ := h.cell hu
      cases ha
      exact cell_below ((Below.refl _ w).alloc (Nat.le_refl _) _) hcu
    have hQ := Lib.hid hq
    clear hq h
    go_enter Tryd.func92, Tryd.ntmps92
    go_wp2_with (at_builtin; refine wpList_append_own _ rfl _ _ 23 rfl w.heap.size 73 i0 (.agg #[.int .i64 0, .string ⟨#[]⟩]) 2 24 Tryd.underlying23 hi hz0 hz1 hz2 rfl (by decide) _ _ _ rfl (World.ownsRow_made w #[] 0 (Nat.le_refl _) (Nat.zero_le _) (by simp)) a l.length c (wrVals l) rfl (by rw [wrVals_length]) hQ.out (wrVals_one l) (by unfold maxLen; omega) (by omega) (by simp) ?_; intro v' w1 hown hgrow _)
    go_ret
    refine ⟨_, rfl, by rw [Nat.zero_add, List.nil_append] at hown; exact hown, ?_⟩
    exact ((Below.refl _ w).alloc (Nat.le_refl _) _).grown hgrow (by simp) (fun j e => by cases e; exact Nat.le_refl _)

theorem results_cell1 {fn : Func} {P : Program} {p : Tmp} {ty : TypeId} (h : fn.results = #[.cell p ty]) (tmps : Array Value) (w : World) (g : Nat) (t : TypeId) (cs : Array Value) (fr : Nat × Nat) (d : TypeDesc)
    (hp : tmps.getD p undef = .pointer (some ⟨g, 0, none⟩)) (hg : w.heap[g]? = some (.cells cs t fr))
    (hu : P.underlying ty = some d) (hd : (match d with | .struct _ | .array _ _ => true | _ => false) = true) (hi : (P.info? ty).map (·.size) = some cs.size) :
    (results fn tmps).run P w = .ok (.agg cs) w := by
  have hp' : tmps[p]?.getD undef = .pointer (some ⟨g, 0, none⟩) := by simpa using hp
  simp [results, h, hp', asAddr, run_loadVar_row w g t ty cs fr d hg hu hd hi]

set_option maxHeartbeats 4000000 in
set_option maxRecDepth 100000 in
theorem clone_any (d : Dev) (v : Value) (w : World) (h : DiskIs w d v) (hl : d.1.length ≤ 4096) (hl2 : d.2.length ≤ 4096) :
    Calls Tryd.prog 65 #[v] w fun e w' => ∃ vb vc, e = .returned (.agg #[vb, vc]) ∧ w'.ownsRow w.heap.size 9 1 vb d.1.length (strVals d.1) ∧ w'.ownsRow w.heap.size 73 2 vc d.2.length (wrVals d.2) ∧ Below w.heap.size w w' := by
  obtain ⟨vb, vc, rfl, hb, hc⟩ := h
  obtain ⟨ab, cb, rfl, _⟩ := hb.slice
  obtain ⟨ac, cc, rfl, _⟩ := hc.slice
  have HS := fun W h => Lib.hid (cloneS_any d.1 (.slice ab d.1.length cb) W h hl)
  have HW := fun W h => Lib.hid (cloneW_any d.2 (.slice ac d.2.length cc) W h hl2)
  go_enter Tryd.func65, Tryd.ntmps65
  go_wp2
  obtain ⟨k1, k2, hsz, hbl⟩ := alloc2 w (.cells #[.slice ab d.1.length cb, .slice ac d.2.length cc] 25) (.cells #[.slice none 0 0, .slice none 0 0] 25)
  have hb0 := hb.below hbl
  have hc0 := hc.below hbl
  generalize ((w.alloc (.cells #[.slice ab d.1.length cb, .slice ac d.2.length cc] 25)).alloc (.cells #[.slice none 0 0, .slice none 0 0] 25)) = W0 at *
  have c0 := cell2_0 k1
  have c1 := cell2_1 k1
  have r0 := cell2_0 k2
  have r1 := cell2_1 k2
  have f0 := frozen2 k2 0
  have f1 := frozen2 k2 1
  go_region_with (first
    | (go_at_call 91; refine (HS _ hb0.drew).out.mono ?_; rintro e w1 ⟨v1, rfl, o1, b1⟩; obtain ⟨ad1, cp1, rfl⟩ := own_slice o1; have k1' := heap_below (show W0.drew.heap[w.heap.size]? = _ from k1) b1; have k2' := heap_below (show W0.drew.heap[w.heap.size + 1]? = _ from k2) b1; have c0' := cell2_0 k1'; have c1' := cell2_1 k1')
    | (go_at_call 92; refine (HW _ (hc0.drew.below b1)).out.mono ?_; rintro e w2 ⟨v2, rfl, o2, b2⟩; obtain ⟨ad2, cp2, rfl⟩ := own_slice o2; have k2'' := heap_below k2' b2; have r0' := cell2_0 k2''; have r1' := cell2_1 k2''; have f0' := frozen2 k2'' 0; have f1' := frozen2 k2'' 1))
  all_goals
    have e1 := Lib.heap_setCell_same (i := 0) k2'' (.slice ad1 d.1.length cp1)
    have e2 := Lib.heap_setCell_same (i := 1) e1 (.slice ad2 d.2.length cp2)
    have b0 : Below W0.heap.size W0 w2 := (Below.refl _ W0).drew.trans (b1.trans (b2.mono b1.size))
    have q1 := own_set (b := w.heap.size + 1) (j := 1) (u := .slice ad2 d.2.length cp2) (own_set (b := w.heap.size + 1) (j := 0) (u := .slice ad1 d.1.length cp1) (own_lower (own_below o1 b2) (B' := w.heap.size + 2) (by rw [← hsz]; exact Nat.le_refl _)) (by omega)) (by omega)
    have q2 := own_set (b := w.heap.size + 1) (j := 1) (u := .slice ad2 d.2.length cp2) (own_set (b := w.heap.size + 1) (j := 0) (u := .slice ad1 d.1.length cp1) (own_lower o2 (B' := w.heap.size + 2) (by rw [← hsz]; exact b1.size)) (by omega)) (by omega)
    go_wp2
    refine bodyPost_ret (results_cell1 rfl _ _ (w.heap.size + 1) _ _ _ _ rfl e2 Tryd.underlying25 rfl (by kernel_rfl)) rfl ?_
    exact ⟨_, _, rfl, own_lower q1 (by omega), own_lower q2 (by omega), below_set (below_set (hbl.trans (b0.mono (by omega))) (by omega)) (by omega)⟩
end Go.Proofs.YthhghggaoljcbaaDoor
