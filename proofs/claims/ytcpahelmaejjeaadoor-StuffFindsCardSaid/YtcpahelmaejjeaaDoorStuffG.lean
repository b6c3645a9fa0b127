/- The walk of Get of chapter 10 (stuff). -/
import Derived.Test.YtcpahelmaejjeaaDoorStuffB
import Derived.Deep.RegionHeld3
import Derived.Deep.DeepMust
import Derived.WalkMore
import Derived.Laws.Rows
namespace Go.Proofs.YtcpahelmaejjeaaDoor
open Go.RowKit Go.Shelf Stuff10

/-- What reading gives, as the call's answer. -/
def getV (r : List UInt8 × Nat × Nat) : Value := .tuple #[.string ⟨r.1.toArray⟩, .agg #[.int .i64 r.2.1, .int .i64 r.2.2]]

theorem results_tmp_cell {fn : Func} {P : Program} {p u : Tmp} {ty : TypeId} (h : fn.results = #[.tmp u, .cell p ty]) (tmps : Array Value) (w : World) (g : Nat) (t : TypeId) (cs : Array Value) (fr : Nat × Nat) (d : TypeDesc)
    (hp : tmps.getD p undef = .pointer (some ⟨g, 0, none⟩)) (hg : w.heap[g]? = some (.cells cs t fr))
    (hu : P.underlying ty = some d) (hd : (match d with | .struct _ | .array _ _ => true | _ => false) = true) (hi : (P.info? ty).map (·.size) = some cs.size) :
    (results fn tmps).run P w = .ok (.tuple #[tmps.getD u undef, .agg cs]) w := by
  have hp' : tmps[p]?.getD undef = .pointer (some ⟨g, 0, none⟩) := by simpa using hp
  simp [results, h, hp', asAddr, Result.andThen, run_loadVar_row w g t ty cs fr d hg hu hd hi]

/-- The cell of the second result. -/
def ResAt (W : World) (g : Nat) (e a : Nat) : Prop := W.heap[g]? = some (.cells #[.int .i64 (e : Int), .int .i64 (a : Int)] 27 (0, 0))
theorem ResAt.c0 {W : World} {g e a : Nat} (h : ResAt W g e a) : W.cell? ⟨g, 0, none⟩ = some (.int .i64 (e : Int)) := by unfold ResAt at h; simp [World.cell?, h]
theorem ResAt.c1 {W : World} {g e a : Nat} (h : ResAt W g e a) : W.cell? ⟨g, 1, none⟩ = some (.int .i64 (a : Int)) := by unfold ResAt at h; simp [World.cell?, h]
theorem ResAt.f {W : World} {g e a : Nat} (h : ResAt W g e a) (j : Nat) : W.frozen? ⟨g, j, none⟩ = false := by unfold ResAt at h; simp [World.frozen?, h]
theorem ResAt.set {W : World} {g e a : Nat} (h : ResAt W g e a) (e' a' : Nat) : ResAt ((W.setCell ⟨g, 0, none⟩ (.int .i64 (e' : Int))).setCell ⟨g, 1, none⟩ (.int .i64 (a' : Int))) g e' a' := by
  have h1 := Lib.heap_setCell_same (i := 0) h (.int .i64 (e' : Int))
  have h2 := Lib.heap_setCell_same (i := 1) h1 (.int .i64 (a' : Int))
  exact h2

set_option maxHeartbeats 2000000 in
set_option maxRecDepth 100000 in
theorem Get_any (s : ByteArray) (hs : s.size ≤ 140737488351232) (w : World) :
    Calls Tryd.prog 13 #[.string s] w fun e w' => e = .returned (getV (getS s.data.toList)) ∧ Below w.heap.size w w' := by
  obtain ⟨S, hS⟩ : ∃ S, S = getS s.data.toList := ⟨_, rfl⟩
  rw [← hS]
  have HS := Lib.hid hS; clear hS
  go_enter Tryd.func13, Tryd.ntmps13
  go_wp2
  go_step3
  go_wp2
  go_step3
  go_wp2
  have hB : LibA.IsBuffer 56 (fun _ => none) 5 (w.heap.size + 1) (w.heap.size + 1) 0 (Lib.byteCells []) ((w.alloc (.cells #[.int .i64 0, .int .i64 0] 27)).alloc (.cells #[.slice none 0 0, .int .i64 0, .int .i8 0] 56)) := by
    refine LibA.zero_isBuffer (Nat.le_refl _) (lr := 0) (LibA.three_whole ?_)
    have := World.alloc_heap_new (w.alloc (.cells #[.int .i64 0, .int .i64 0] 27)) (.cells #[.slice none 0 0, .int .i64 0, .int .i8 0] 56)
    rwa [World.size_alloc] at this
  have hR : ((w.alloc (.cells #[.int .i64 0, .int .i64 0] 27)).alloc (.cells #[.slice none 0 0, .int .i64 0, .int .i8 0] 56)).heap[w.heap.size]? = some (.cells #[.int .i64 0, .int .i64 0] 27 (0, 0)) :=
    (Below.heap_alloc _ _ _ (by simp)).trans (World.alloc_heap_new w _)
  have hb0 : Below w.heap.size w ((w.alloc (.cells #[.int .i64 0, .int .i64 0] 27)).alloc (.cells #[.slice none 0 0, .int .i64 0, .int .i8 0] 56)) := ((Below.refl _ w).alloc (Nat.le_refl _) _).alloc (by simp) _
  generalize (w.alloc (.cells #[.int .i64 0, .int .i64 0] 27)).alloc (.cells #[.slice none 0 0, .int .i64 0, .int .i8 0] 56) = W0 at *
  go_loopw [5, 6, 7, 8] (fun left full begun i wr => ∃ (k L : Nat) (F G : Bool) (out : List UInt8), i = .int .i64 k ∧ left = .int .i64 L ∧ full = .bool F ∧ begun = .bool G ∧ k ≤ s.size ∧ L ≤ 254 ∧ out.length ≤ k ∧
      Hid (gp (s.data.toList.drop k) k L F G out = S) ∧ LibA.IsBuffer 56 (fun _ => none) 5 (w.heap.size + 1) (w.heap.size + 1) 0 (Lib.byteCells out) wr ∧ ResAt wr w.heap.size 0 0 ∧ Below w.heap.size w wr)
    (fun _ _ _ i _ => s.size - (intOf i).toNat)
  case atStart => exact ⟨0, 0, true, false, [], rfl, rfl, rfl, rfl, Nat.zero_le _, by omega, Nat.zero_le _, Lib.hid (by rw [HS.out]; rfl), hB, hR, hb0⟩
  case round =>
    obtain ⟨k, L, F, G, out, rfl, rfl, rfl, rfl, hk, hL, ho, hgp, hbuf, hres, hbl⟩ := hrel
    by_cases hlt : k < s.size
    · have hne : ((k : Int) == s.size) = false := by simp; omega
      have hdrop : s.data.toList.drop k = s[k] :: s.data.toList.drop (k + 1) := by
        rw [List.drop_eq_getElem_cons (by rw [length_size]; exact hlt)]; rfl
      rw [hdrop] at hgp
      obtain ⟨c, hc⟩ : ∃ c, c = s[k] := ⟨_, rfl⟩
      rw [← hc] at hgp
      by_cases hz : c = 0
      · have hz' : ((s[k].toNat : Int) == 0) = true := by rw [← hc, hz]; rfl
        have hS := hgp.out
        rw [gp, if_pos hz] at hS
        clear hgp hdrop hc hz
        have hgp := Lib.hid hS
        clear hS
        have r0 := hres.c0; have r1 := hres.c1; have f0 := hres.f 0; have f1 := hres.f 1
        go_wp2
        rw [Exit.noGoto_ret]
        refine bodyPost_ret (results_tmp_cell rfl _ _ w.heap.size _ _ _ _ rfl (hres.set 3 k) Tryd.underlying27 rfl (by kernel_rfl)) rfl ?_
        refine ⟨?_, (hbl.setCell (p := ⟨w.heap.size, 0, none⟩) (Nat.le_refl _) _).setCell (p := ⟨w.heap.size, 1, none⟩) (Nat.le_refl _) _⟩
        rw [← hgp.out]; rfl
      · have hz' : ((s[k].toNat : Int) == 0) = false := by
          rw [← hc, beq_eq_false_iff_ne]
          intro e
          exact hz (UInt8.toNat_inj.1 (by simpa using e))
        have hS := hgp.out
        rw [gp, if_neg hz] at hS
        have hsz := hbl.size
        have hb1 : w.heap.size + 1 ≤ wr.heap.size := Nat.le_of_lt hbuf.lt
        have hl1 := Lib.byteCells_length out
        have ho1 := Lib.byteCells_one out
        by_cases hL0 : 0 < L
        · rw [if_pos hL0] at hS
          have hL0' : decide ((0 : Int) < L) = true := by simp; omega
          clear hgp hdrop hz
          have hgp := Lib.hid hS
          clear hS
          have c1 := Tryd.Buffer_WriteByte_at 56 (fun _ => none) (w.heap.size + 1) (w.heap.size + 1) 0 _ (s[k].toNat : Int) wr hbuf hb1 ho1 (by omega)
          rw [← hc] at c1
          go_wp2_with (go_at_call 32; rw [← hc]; refine c1.mono ?_; clear c1; rintro e W2 ⟨rfl, i2, b2, k2⟩)
          refine ⟨⟨k + 1, L - 1, F, G, out ++ [c], rfl, by rw [Int.ofNat_sub hL0]; rfl, rfl, rfl, hlt, by omega, by simp; omega, hgp, ?_, (b2.block _ (by omega)).trans hres, hbl.trans (b2.mono (by omega))⟩, by simp [intOf]; omega⟩
          rw [Lib.byteCells_append]; exact i2
        · rw [if_neg hL0] at hS
          obtain rfl : L = 0 := by omega
          have hL0' : decide ((0 : Int) < ((0 : Nat) : Int)) = false := rfl
          clear hgp hdrop hz hL0
          have hcn : 0 < c.toNat := by
            rcases Nat.eq_zero_or_pos c.toNat with e | e
            · rw [← hc, e] at hz'; cases hz'
            · exact e
          have hc256 : c.toNat < 256 := c.toNat_lt
          have h255 : ((s[k].toNat : Int) == 255) = (c == 255) := by
            rw [← hc, Bool.eq_iff_iff, beq_iff_eq, beq_iff_eq]
            constructor
            · intro e; exact UInt8.toNat_inj.1 (by have : c.toNat = 255 := by omega
                                                   rw [this]; rfl)
            · intro e; rw [e]; rfl
          have hw : IntKind.i64.wrap (IntKind.i64.wrap (s[k].toNat : Int) - 1) = ((c.toNat - 1 : Nat) : Int) := by
            rw [← hc, IntWalk.i64_in (c.toNat : Int) (by omega), IntWalk.i64_in _ (by omega)]; omega
          have HW := Lib.hid hw; clear hw
          have hm : ∀ x : Int, s.size - (intOf (Value.int IntKind.i64 ((k : Int) + 1))).toNat < s.size - (intOf (Value.int IntKind.i64 (k : Int))).toNat := by intro _; simp [intOf]; omega
          by_cases hGF : (G && !F) = true
          · rw [if_pos hGF] at hS
            have hgp := Lib.hid hS
            clear hS
            obtain ⟨rfl, rfl⟩ : G = true ∧ F = false := by simpa using hGF
            have c1 := Tryd.Buffer_WriteByte_at 56 (fun _ => none) (w.heap.size + 1) (w.heap.size + 1) 0 _ 0 wr hbuf hb1 ho1 (by omega)
            clear hGF
            go_wp2_with (go_at_call 32; refine c1.mono ?_; clear c1; rintro e W2 ⟨rfl, i2, b2, k2⟩)
            go_region_held3 (fun w' => True) (trivial) (fail)
            all_goals go_wp2
            all_goals refine ⟨⟨k + 1, c.toNat - 1, c == 255, true, out ++ [0], rfl, by rw [HW.out], by rw [hc], rfl, hlt, by omega, by simp; omega, hgp, ?_, (b2.block _ (by omega)).trans hres, hbl.trans ((b2.mono (by omega)).trans (Below.refl _ _).drew)⟩, hm 0⟩
            all_goals (rw [Lib.byteCells_append]; exact i2.drew)
          · rw [if_neg hGF] at hS
            have hgp := Lib.hid hS
            clear hS
            have hGF' : G = false ∨ G = true ∧ F = true := by
              cases G <;> cases F <;> simp_all
            clear hGF
            rcases hGF' with rfl | ⟨rfl, rfl⟩
            · go_wp2
              go_region_held3 (fun w' => True) (trivial) (fail)
              all_goals go_wp2
              all_goals exact ⟨⟨k + 1, c.toNat - 1, c == 255, true, out, rfl, by rw [HW.out], by rw [hc], rfl, hlt, by omega, by omega, hgp, hbuf.drew, hres, hbl.drew⟩, hm 0⟩
            · go_wp2
              go_region_held3 (fun w' => True) (trivial) (fail)
              all_goals go_wp2
              all_goals exact ⟨⟨k + 1, c.toNat - 1, c == 255, true, out, rfl, by rw [HW.out], by rw [hc], rfl, hlt, by omega, by omega, hgp, hbuf.drew, hres, hbl.drew⟩, hm 0⟩
    · obtain rfl : k = s.size := by omega
      have hS := hgp.out
      rw [List.drop_of_length_le (by rw [length_size]; exact Nat.le_refl _), gp] at hS
      have r0 := hres.c0; have r1 := hres.c1; have f0 := hres.f 0; have f1 := hres.f 1
      have bad : ∀ W', W' = (wr.setCell ⟨w.heap.size, 0, none⟩ (.int .i64 11)).setCell ⟨w.heap.size, 1, none⟩ (.int .i64 s.size) → ResAt W' w.heap.size 11 s.size ∧ Below w.heap.size w W' := by
        intro W' e
        rw [e]
        exact ⟨hres.set 11 s.size, (hbl.setCell (p := ⟨w.heap.size, 0, none⟩) (Nat.le_refl _) _).setCell (p := ⟨w.heap.size, 1, none⟩) (Nat.le_refl _) _⟩
      by_cases hg : G = true ∧ L = 0 ∧ F = false
      · obtain ⟨rfl, rfl, rfl⟩ := hg
        simp only [BEq.rfl, Bool.and_self, Bool.not_false, if_true] at hS
        clear bad hgp
        have hgp := Lib.hid hS; clear hS
        have c1 := Tryd.Buffer_String_at 56 (fun _ => none) (w.heap.size + 1) (w.heap.size + 1) 0 _ wr hbuf
        go_wp2_with (go_at_call 34; refine c1.mono ?_; clear c1; rintro e W2 ⟨rfl, n, rfl⟩)
        rw [Exit.noGoto_ret]
        have hres' : ResAt (wr.drewN n) w.heap.size 0 0 := hres
        have hbl' : Below w.heap.size w (wr.drewN n) := hbl.trans ⟨rfl, rfl, rfl, Nat.le_refl _, fun _ _ => rfl⟩
        refine bodyPost_ret (results_tmp_cell rfl _ _ w.heap.size _ _ _ _ rfl (hres'.set 0 0) Tryd.underlying27 rfl (by kernel_rfl)) rfl ?_
        refine ⟨?_, (hbl'.setCell (p := ⟨w.heap.size, 0, none⟩) (Nat.le_refl _) _).setCell (p := ⟨w.heap.size, 1, none⟩) (Nat.le_refl _) _⟩
        rw [← hgp.out]; rfl
      · have hS' : ([], 11, s.size) = S := by
          rw [if_neg] at hS
          · exact hS
          · intro h; apply hg; simp at h; exact ⟨h.1.1, h.1.2, h.2⟩
        clear hS hgp
        have hgp := Lib.hid hS'; clear hS'
        have hg' : G = false ∨ (G = true ∧ 0 < L) ∨ (G = true ∧ L = 0 ∧ F = true) := by
          cases G <;> cases F <;> simp_all <;> omega
        clear hg
        rcases hg' with rfl | ⟨rfl, hL0⟩ | ⟨rfl, rfl, rfl⟩
        · go_wp2
          rw [Exit.noGoto_ret]
          obtain ⟨hr, hb⟩ := bad _ rfl
          refine bodyPost_ret (results_tmp_cell rfl _ _ w.heap.size _ _ _ _ rfl hr Tryd.underlying27 rfl (by kernel_rfl)) rfl ⟨?_, hb⟩
          rw [← hgp.out]; rfl
        · have hL0' : ((L : Int) == 0) = false := by simp; omega
          go_wp2
          rw [Exit.noGoto_ret]
          obtain ⟨hr, hb⟩ := bad _ rfl
          refine bodyPost_ret (results_tmp_cell rfl _ _ w.heap.size _ _ _ _ rfl hr Tryd.underlying27 rfl (by kernel_rfl)) rfl ⟨?_, hb⟩
          rw [← hgp.out]; rfl
        · go_wp2
          rw [Exit.noGoto_ret]
          obtain ⟨hr, hb⟩ := bad _ rfl
          refine bodyPost_ret (results_tmp_cell rfl _ _ w.heap.size _ _ _ _ rfl hr Tryd.underlying27 rfl (by kernel_rfl)) rfl ⟨?_, hb⟩
          rw [← hgp.out]; rfl
end Go.Proofs.YtcpahelmaejjeaaDoor
