/- The walk of the reference's Dirty, chapter 11 (disk). -/
import Derived.Test.YtiemlaofhmncdaaDiskT
import Derived.Test.YtiemlaofhmncdaaKitI
namespace Go.Proofs.Ytiemlaofhmncdaa
open Go.RowKit Disk11

/-- The numbers below k of the blocks that differ. -/
def dirtyTo (d : Dev) (k : Nat) : List Nat := (List.range k).filter fun i => (chunk (readAll d))[i]? != d.1[i]?
theorem dirtyTo_all (d : Dev) : dirtyTo d d.1.length = dirtyL d := rfl
theorem dirtyTo_succ (d : Dev) (k : Nat) : dirtyTo d (k + 1) = if ((chunk (readAll d))[k]? != d.1[k]?) = true then dirtyTo d k ++ [k] else dirtyTo d k := by
  unfold dirtyTo
  rw [List.range_succ, List.filter_append]
  by_cases h : ((chunk (readAll d))[k]? != d.1[k]?) = true
  · rw [if_pos h]; simp [h]
  · rw [if_neg h]; simp [h]
theorem dirtyTo_le (d : Dev) (k : Nat) : (dirtyTo d k).length ≤ k := by
  have := List.length_filter_le (fun i => (chunk (readAll d))[i]? != d.1[i]?) (List.range k)
  rw [List.length_range] at this; exact this

set_option maxHeartbeats 4000000 in
set_option maxRecDepth 100000 in
theorem RDirty_any (d : Dev) (v : Value) (w : World) (h : DiskIs w d v) :
    Calls Try.prog 34 #[v] w fun e w' => ∃ v', e = .returned (.tuple #[v', .int .i64 (dirtyD d).2]) ∧ Ints w' w.heap.size v' (dirtyD d).1 ∧ Below w.heap.size w w' := by
  have HC := Lib.hid (fun W h => RCheck_any d v W h)
  have HR := Lib.hid (fun W h hg => readR_any d v W h hg)
  have hD := Lib.hid h
  have hgd : (chk d).1 = 0 → Disk11.Good d := fun h => (chk_good d).1 (chk_ok h)
  obtain ⟨r, hr⟩ : ∃ r, r = dirtyD d := ⟨_, rfl⟩
  rw [← hr]
  unfold dirtyD at hr
  obtain ⟨c, hc⟩ : ∃ c, c = chk d := ⟨_, rfl⟩
  rw [← hc] at hr hgd HC
  clear hc
  obtain ⟨c1, c2⟩ := c
  dsimp only at hr hgd HC
  obtain ⟨ab, cb, ac, cc, rfl, _, _, hbc, _⟩ := h.form
  clear h
  have hal := Go.Joins.below_alloc1 w (.cells #[.slice ab d.1.length cb, .slice ac d.2.length cc] 25)
  have hk1 := World.alloc_heap_new w (.cells #[.slice ab d.1.length cb, .slice ac d.2.length cc] 25)
  by_cases h0 : c1 = 0
  · subst h0
    have hg := hgd rfl
    clear hgd
    rw [if_neg (by simp)] at hr
    have hl := hg.2.1
    have hra := readAll_length hg
    go_enter Try.func34, Try.ntmps34
    go_wp2_with fail
    refine (HC.out _ (hD.out.below hal)).mono ?_
    rintro e w1 ⟨rfl, b1⟩
    have k1 := heap_below hk1 b1
    have hb1 := hal.trans (b1.mono hal.size)
    have c0 := cell2_0 k1
    have c1 := cell2_1 k1
    go_wp2_with fail
    refine (HR.out w1 (hD.out.below hb1) hg).mono ?_
    rintro e w2 ⟨v2, rfl, o2, b2⟩
    have hb2 := hb1.trans (b2.mono hb1.size)
    have HV := Lib.hid (deviceR_any (readAll d) d.1.length hra hl v2 _ w2 o2)
    go_wp2_with fail
    refine HV.out.mono ?_
    rintro e w3 ⟨v3, rfl, o3, b3⟩
    have hb3 := hb2.trans (b3.mono hb2.size)
    obtain ⟨ad, cp, rfl⟩ := own_slice o3
    have k3 := heap_below (heap_below k1 b2) b3
    clear c0 c1
    go_wp2
    obtain ⟨C, hC⟩ : ∃ C, C = chunk (readAll d) := ⟨_, rfl⟩
    have hCl : C.length = d.1.length := by rw [hC, chunk_length, hra]; omega
    rw [← hC] at o3
    have hal4 := Go.Joins.below_alloc1 w3 (.cells #[.slice ad d.1.length cp, .slice none 0 0] 25)
    have hf4 := World.alloc_heap_new w3 (.cells #[.slice ad d.1.length cp, .slice none 0 0] 25)
    have k4 := heap_below k3 hal4
    have o4 := World.ownsRow.alloc o3 (.cells #[.slice ad d.1.length cp, .slice none 0 0] 25)
    have hb4 := hb3.trans (hal4.mono hb3.size)
    generalize hW4 : w3.alloc (.cells #[.slice ad d.1.length cp, .slice none 0 0] 25) = W4 at *
    go_loopw [7, 8] (fun o i wr => ∃ k : Nat, i = .int .i64 k ∧ k ≤ d.1.length ∧ Ints wr W4.heap.size o (dirtyTo d k) ∧ Below W4.heap.size W4 wr) (fun _ i _ => d.1.length - (intOf i).toNat)
    case atStart => exact ⟨0, rfl, Nat.zero_le _, Ints.nil _ _, Below.refl _ _⟩
    case round =>
      obtain ⟨k, rfl, hk, hin, hbl⟩ := hrel
      have hbw := hb4.trans (hbl.mono hb4.size)
      have kw := heap_below k4 hbl
      have fw := heap_below hf4 hbl
      have x0 := cell2_0 kw
      have x1 := cell2_1 kw
      have y0 := cell2_0 fw
      have y1 := cell2_1 fw
      by_cases hlt : k < d.1.length
      · have hlt' : decide ((k : Int) < d.1.length) = true := by simp; omega
        obtain ⟨a, rfl, q0⟩ := hbc k hlt
        have q0' := cell_below hbw q0
        have hds := dirtyTo_succ d k
        have hle := dirtyTo_le d k
        obtain ⟨g, cap, hvf⟩ : ∃ g cap, (Value.slice ad d.1.length cp) = .slice (some ⟨g, 0, none⟩) d.1.length cap := by
          rcases o4.2 with ⟨_, h0⟩ | ⟨g, cap, cur, hv, _⟩
          · omega
          · exact ⟨g, cap, hv⟩
        simp only [Value.slice.injEq, true_and] at hvf
        obtain ⟨rfl, rfl⟩ := hvf
        have hcC := cell_below hbl (show W4.cell? ⟨g, k, none⟩ = some (.string ⟨C[k].toArray⟩) by rw [World.ownsRow.cellAt o4 k (by omega), strVals_at C k (by omega)])
        rw [List.getElem?_eq_getElem hlt, ← hC, List.getElem?_eq_getElem (by omega)] at hds
        obtain ⟨X, hX⟩ : ∃ X, X = C[k]'(by omega) := ⟨_, rfl⟩
        obtain ⟨Y, hY⟩ : ∃ Y, Y = d.1[k] := ⟨_, rfl⟩
        rw [← hY] at q0' hds
        rw [← hX] at hcC hds
        by_cases hxy : X = Y
        · have hxy' : (X == Y) = true := by simp [hxy]
          rw [if_neg (by simp [hxy])] at hds
          have hHd := Lib.hid hds
          clear hds hX hY hxy q0 hbc
          go_wp2
          go_region
          go_wp2
          exact ⟨⟨k + 1, rfl, hlt, by rw [hHd.out]; exact hin.drew, hbl.drew⟩, by simp [intOf]; omega⟩
        · have hxy' : (X == Y) = false := by simp [hxy]
          rw [if_pos (by simp [hxy])] at hds
          have hHd := Lib.hid hds
          clear hds hX hY hxy q0 hbc
          go_wp2
          have hin2 := hin.drew
          have hbl2 := hbl.drew
          go_region
          generalize wr.drew = wq at *
          go_wp2_with (at_builtin; refine app_int (n := k) rfl rfl W4.heap.size rfl hin2 (by simp [go_sem]) (by omega) hbl2.size ?_; intro g' cap' w5 t5 b5 _ _)
          all_goals go_wp2
          rw [← hHd.out] at t5
          exact ⟨⟨k + 1, rfl, hlt, t5, hbl2.trans b5⟩, by simp [intOf]; omega⟩
      · obtain rfl : k = d.1.length := by omega
        have hlt' : decide ((d.1.length : Int) < d.1.length) = false := by simp
        rw [dirtyTo_all] at hin
        subst hr
        clear hbc
        go_wp2
        go_ret2
        exact ⟨_, rfl, hin.lower hb4.size, hbw⟩
  · have h0' : ((c1 : Int) == 0) = false := by simp; omega
    rw [if_pos h0] at hr
    subst hr
    clear h0 hgd
    go_enter Try.func34, Try.ntmps34
    go_wp2_with fail
    refine (HC.out _ (hD.out.below hal)).mono ?_
    rintro e w1 ⟨rfl, b1⟩
    go_wp2
    go_ret2
    exact ⟨_, rfl, Ints.nil _ _, hal.trans (b1.mono hal.size)⟩
end Go.Proofs.Ytiemlaofhmncdaa
