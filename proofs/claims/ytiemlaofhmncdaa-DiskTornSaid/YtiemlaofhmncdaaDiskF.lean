/- The walk of Dirty, chapter 11 (disk): its map of numbers. -/
import Derived.Test.YtiemlaofhmncdaaDiskE
import Derived.Maps.OwnSet
import Derived.Maps.OwnOps
import Derived.Maps.Views
import Derived.RangeFuncOwn
namespace Go.Proofs.Ytiemlaofhmncdaa
open Go.RowKit Disk11

theorem below_grown {w w' : World} (h : Below w.heap.size w w') : w.grownBy w' none := ⟨h.os, h.tape, h.output, h.size, fun k hk _ => h.block k hk⟩
theorem lit_wf (k : Nat) (h : k ≤ 8192) : (Lit.int .i64 (k : Int)).wf = true := by
  simp [Lit.wf, IntKind.min, IntKind.max, IntKind.bits, IntKind.signed]
  try omega
/-- What the map says: the numbers below k of the blocks that differ. -/
def MapTo (d : Dev) (k : Nat) (D : DataW Unit) : Prop := ∀ j : Nat, D.atKey (.int .i64 (j : Int)) (.lit (.bool false)) = .lit (.bool (decide (j < k) && ((chunk (readAll d))[j]? != d.1[j]?)))
theorem MapTo.zero (d : Dev) : MapTo d 0 (.map []) := fun j => by simp [DataW.atKey]
theorem MapTo.skip {d : Dev} {k : Nat} {D : DataW Unit} (h : MapTo d k D) (hk : ((chunk (readAll d))[k]? != d.1[k]?) = false) : MapTo d (k + 1) D := fun j => by
  rw [h j]
  by_cases e : j = k
  · subst e; rw [hk]; simp
  · congr 3; exact decide_eq_decide.2 (by omega)
theorem MapTo.put {d : Dev} {k : Nat} {D : DataW Unit} (h : MapTo d k D) (hD : Maps.IsMap D) (hk : ((chunk (readAll d))[k]? != d.1[k]?) = true) : MapTo d (k + 1) (D.put (.int .i64 (k : Int)) (.lit (.bool true))) := fun j => by
  by_cases e : j = k
  · subst e; rw [Maps.atKey_put_same hD (by simp [WideAt.IsKeyLit]), hk]; simp
  · rw [Maps.atKey_put_other (by intro h; simp at h; omega), h j]
    congr 3; exact decide_eq_decide.2 (by omega)

theorem look_bool {w : World} {b n : Nat} {D : DataW Unit} (h : w.ownsMap Try.prog 3 (plainElem (H := Unit) Try.prog 4) b n D) (k : Nat) (hk : k ≤ 8192) :
    ∃ c, (Instr.lookup 74 (.map (some b)) (.int .i64 (k : Int)) false).run Try.prog w = .ok (.bool c) w ∧ D.atKey (.int .i64 (k : Int)) (.lit (.bool false)) = .lit (.bool c) := by
  obtain ⟨v, ps, hrun, hv⟩ := h.lookup (Maps.int_keyed Try.underlying3) Try.underlying74 (z := .bool false) (Try.zeroValue4 w) (plainElem_bool Try.underlying4 false) (Maps.keyOf_int_mk Try.underlying3 (lit_wf k hk))
  unfold plainElem at hv
  rw [Try.underlying4] at hv
  cases v with
  | bool c => simp only [Option.some.injEq, Prod.mk.injEq] at hv; exact ⟨c, hrun, hv.1.symm⟩
  | _ => simp at hv
theorem run_clear {w : World} {b n : Nat} {D : DataW Unit} (h : w.ownsMap Try.prog 3 (plainElem (H := Unit) Try.prog 4) b n D) :
    ∃ w', (∀ ty, (Builtin.clear_ #[74] ty #[.map (some b)]).run Try.prog w = .ok (.tuple #[]) w') ∧ w.grownBy w' (some b) := by
  obtain ⟨es, clock, hb, _⟩ := h
  refine ⟨w.putObj b (.map #[] clock), fun ty => ?_, grownBy_putObj' _ _ _⟩
  simp [Builtin.clear_, run_underlying Try.underlying74, getObj, setObj, Sem.run, hb, Result.andThen, World.putObj]
set_option maxHeartbeats 4000000 in
set_option maxRecDepth 100000 in
theorem Dirty_any (d : Dev) (v : Value) (w : World) (h : DiskIs w d v) :
    Calls Try.prog 33 #[v] w fun e w' => ∃ v', e = .returned (.tuple #[v', .int .i64 (dirtyD d).2]) ∧ Ints w' w.heap.size v' (dirtyD d).1 ∧ Below w.heap.size w w' := by
  have HC := Lib.hid (fun W h => Check_any d v W h)
  have HL := Lib.hid (fun n W h hg hn => laid_any d v n W h hg hn)
  have hD := Lib.hid h
  have hgd : (chk d).1 = 0 → Disk11.Good d := fun h => (chk_good d).1 (chk_ok h)
  obtain ⟨r, hr⟩ : ∃ r, r = dirtyD d := ⟨_, rfl⟩
  rw [← hr]
  unfold dirtyD at hr
  obtain ⟨c, hc⟩ : ∃ c, c = chk d := ⟨_, rfl⟩
  rw [← hc] at hr hgd HC
  clear hc
  obtain ⟨c1, c2⟩ := c
  dsimp only at hr hgd HC
  obtain ⟨ab, cb, ac, cc, rfl, _, _, hbc, _⟩ := h.form
  clear h
  have hal := Go.Joins.below_alloc1 w (.cells #[.slice ab d.1.length cb, .slice ac d.2.length cc] 25)
  have hk1 := World.alloc_heap_new w (.cells #[.slice ab d.1.length cb, .slice ac d.2.length cc] 25)
  by_cases h0 : c1 = 0
  · subst h0
    have hg := hgd rfl
    clear hgd
    rw [if_neg (by simp)] at hr
    have hl := hg.2.1
    have hra := readAll_length hg
    go_enter Try.func33, Try.ntmps33
    go_wp2_with fail
    refine (HC.out _ (hD.out.below hal)).mono ?_
    rintro e w1 ⟨rfl, b1⟩
    have k1 := heap_below hk1 b1
    have hb1 := hal.trans (b1.mono hal.size)
    have c0 := cell2_0 k1
    have c1 := cell2_1 k1
    have hm0 := World.ownsMap_made w1 Try.prog 3 (plainElem (H := Unit) Try.prog 4)
    have hal2 := Go.Joins.below_alloc1 w1 (.map #[] 0)
    have hb2 := hb1.trans (hal2.mono hb1.size)
    have k2 := heap_below k1 hal2
    have x0 := cell2_0 k2
    have x1 := cell2_1 k2
    have hmk : (Instr.makeMap 74 none).run Try.prog w1 = .ok (.map (some w1.heap.size)) (w1.alloc (.map #[] 0)) := rfl
    have hs2 : (w1.alloc (.map #[] 0)).heap.size = w1.heap.size + 1 := World.size_alloc ..
    go_wp2_with fail
    refine (HL.out d.2.length _ (hD.out.below hb2) hg (Nat.le_refl _)).mono ?_
    rintro e w3 ⟨v3, rfl, o3, b3⟩
    rw [hs2] at o3
    have hm3 := hm0.kept (below_grown b3) (by simp)
    have hb3 := hb2.trans (b3.mono hb2.size)
    have k3 := heap_below k2 b3
    obtain ⟨ad, cp, rfl⟩ := own_slice o3
    rw [readK_all] at o3
    obtain ⟨C, hC⟩ : ∃ C, C = chunk (readAll d) := ⟨_, rfl⟩
    have hCl : C.length = d.1.length := by rw [hC, chunk_length, readAll_length hg]; omega
    rw [← hC] at o3
    obtain ⟨mb, hmb⟩ : ∃ mb, mb = w1.heap.size := ⟨_, rfl⟩
    rw [← hmb] at hm3 o3 hs2
    have hmbw : w.heap.size + 1 ≤ mb := by rw [hmb]; have := b1.size; simp at this; omega
    clear hmk hm0 x0 x1 c0 c1
    go_wp2
    rw [← hmb]
    clear hmb
    go_loopw [26] (fun i wr => ∃ (k : Nat) (D : DataW Unit), i = .int .i64 k ∧ k ≤ d.1.length ∧ wr.ownsMap Try.prog 3 (plainElem (H := Unit) Try.prog 4) mb k D ∧ Hid (MapTo d k D) ∧ w3.grownBy wr (some mb)) (fun i _ => d.1.length - (intOf i).toNat)
    case atStart => exact ⟨0, _, rfl, Nat.zero_le _, hm3, Lib.hid (MapTo.zero d), ⟨rfl, rfl, rfl, Nat.le_refl _, fun _ _ _ => rfl⟩⟩
    case round =>
      obtain ⟨k, D, rfl, hk, hmap, hto, hgr⟩ := hrel
      have kw : wr.heap[w.heap.size]? = _ := (hgr.block _ (Array.getElem?_eq_some_iff.1 k3).1 (by simp; omega)).trans k3
      have hbw : Below w.heap.size w wr := hb3.grown hgr hb3.size (fun j e => by cases e; omega)
      have ow : wr.ownsRow (mb + 1) 9 1 (.slice ad d.1.length cp) d.1.length (strVals C) := World.ownsRow.kept o3 hgr (by
        rcases o3.2 with ⟨h1, _⟩ | ⟨g, cap, cur, h1, hgb, _⟩
        · rw [h1]; exact Or.inl rfl
        · rw [h1]; exact Or.inr (fun e => by simp only [Value.ownBlock, Option.some.injEq] at e; omega))
      have x0 := cell2_0 kw
      have x1 := cell2_1 kw
      by_cases hlt : k < d.1.length
      · have hlt' : decide ((k : Int) < d.1.length) = true := by simp; omega
        obtain ⟨a, rfl, q0⟩ := hbc k hlt
        have q0' := cell_below hbw q0
        obtain ⟨g, cap, hvf⟩ : ∃ g cap, (Value.slice ad d.1.length cp) = .slice (some ⟨g, 0, none⟩) d.1.length cap := by
          rcases o3.2 with ⟨_, h0⟩ | ⟨g, cap, cur, hv, _⟩
          · omega
          · exact ⟨g, cap, hv⟩
        simp only [Value.slice.injEq, true_and] at hvf
        obtain ⟨rfl, rfl⟩ := hvf
        have hcC := World.ownsRow.cellAt ow k (by omega)
        rw [strVals_at C k (by omega)] at hcC
        have hdf : ((chunk (readAll d))[k]? != d.1[k]?) = !(C[k]'(by omega) == d.1[k]) := by
          rw [← hC, List.getElem?_eq_getElem hlt, List.getElem?_eq_getElem (by omega)]; rfl
        obtain ⟨X, hX⟩ : ∃ X, X = C[k]'(by omega) := ⟨_, rfl⟩
        obtain ⟨Y, hY⟩ : ∃ Y, Y = d.1[k] := ⟨_, rfl⟩
        rw [← hY] at q0' hdf
        rw [← hX] at hcC hdf
        cases hxy : (X == Y) with
        | true =>
          rw [hxy] at hdf
          have hsk := Lib.hid (hto.out.skip hdf)
          clear hdf hX hY q0 hbc
          go_wp2
          exact ⟨⟨k + 1, D, rfl, hlt, hmap.mono (by omega), hsk, hgr⟩, by simp [intOf]; omega⟩
        | false =>
          rw [hxy] at hdf
          have hpt := Lib.hid (hto.out.put hmap.isMap hdf)
          clear hdf hX hY q0 hbc
          go_wp2_with (at_mapUpdate; refine wpList_mapUpdate_own _ rfl _ _ _ 74 rfl 3 4 (Maps.int_keyed Try.underlying3) Try.underlying74 _ mb k D rfl hmap (by unfold maxLen; omega) _ _ (.int .i64 (k : Int)) rfl rfl (Maps.keyOf_int_mk Try.underlying3 (lit_wf k (by omega))) _ [] (plainElem_bool Try.underlying4 true) ?_; intro w5 m5 g5)
          all_goals go_wp2
          exact ⟨⟨k + 1, _, rfl, hlt, m5, hpt, hgr.trans g5⟩, by simp [intOf]; omega⟩
      · obtain rfl : k = d.1.length := by omega
        have hlt' : decide ((d.1.length : Int) < d.1.length) = false := by simp
        clear hm3
        go_wp2
        obtain ⟨Wm, rfl⟩ : ∃ W, W = wr := ⟨wr, rfl⟩
        have hbmb : mb < Wm.heap.size := hmap.lt
        go_loopw [9, 44] (fun o i wq => ∃ k : Nat, i = .int .i64 k ∧ k ≤ d.1.length ∧ Ints wq Wm.heap.size o (dirtyTo d k) ∧ Below Wm.heap.size Wm wq) (fun _ i _ => d.1.length - (intOf i).toNat)
        case atStart => exact ⟨0, rfl, Nat.zero_le _, Ints.nil _ _, Below.refl _ _⟩
        case round =>
          obtain ⟨k, rfl, hk, hin, hbl⟩ := hrel
          have hmq := hmap.kept (below_grown hbl) (by simp)
          by_cases hlt : k < d.1.length
          · have hlt2 : decide ((k : Int) < d.1.length) = true := by simp; omega
            have hds := dirtyTo_succ d k
            have hle := dirtyTo_le d k
            obtain ⟨c, hrun, hcv⟩ := look_bool hmq k (by omega)
            rw [hto.out k, show decide (k < d.1.length) = true by simpa using hlt, Bool.true_and] at hcv
            have hcv2 : c = ((chunk (readAll d))[k]? != d.1[k]?) := by cases hcv; rfl
            rw [← hcv2] at hds
            clear hcv hcv2 hlt'
            cases c with
            | true =>
              rw [if_pos rfl] at hds
              have hHd := Lib.hid hds
              clear hds hbc
              go_wp2_with (at_builtin; refine app_int (n := k) rfl rfl Wm.heap.size rfl hin (by simp [go_sem]) (by omega) hbl.size ?_; intro g' cap' w5 t5 b5 _ _)
              all_goals go_wp2
              rw [← hHd.out] at t5
              exact ⟨⟨k + 1, rfl, hlt, t5, hbl.trans b5⟩, by simp [intOf]; omega⟩
            | false =>
              rw [if_neg (by simp)] at hds
              have hHd := Lib.hid hds
              clear hds hbc
              go_wp2
              exact ⟨⟨k + 1, rfl, hlt, by rw [hHd.out]; exact hin, hbl⟩, by simp [intOf]; omega⟩
          · obtain rfl : k = d.1.length := by omega
            have hlt2 : decide ((d.1.length : Int) < d.1.length) = false := by simp
            rw [dirtyTo_all] at hin
            subst hr
            clear hbc
            obtain ⟨w6, hcl, g6⟩ := run_clear hmq
            have hr6 : Ints w6 Wm.heap.size u9 (dirtyL d) := World.ownsRow.kept hin g6 (by
              rcases hin.2 with ⟨h1, _⟩ | ⟨g, cap, cur, h1, hgb, _⟩
              · rw [h1]; exact Or.inl rfl
              · rw [h1]; exact Or.inr (fun e => by simp only [Value.ownBlock, Option.some.injEq] at e; omega))
            have hb6 : Below w.heap.size w w6 := (hbw.trans (hbl.mono hbw.size)).grown g6 (hbw.trans (hbl.mono hbw.size)).size (fun j e => by cases e; omega)
            go_wp2
            go_ret2
            exact ⟨_, rfl, hr6.lower hbw.size, hb6⟩
  · have h0' : ((c1 : Int) == 0) = false := by simp; omega
    rw [if_pos h0] at hr
    subst hr
    clear h0 hgd
    go_enter Try.func33, Try.ntmps33
    go_wp2_with fail
    refine (HC.out _ (hD.out.below hal)).mono ?_
    rintro e w1 ⟨rfl, b1⟩
    go_wp2
    go_ret2
    exact ⟨_, rfl, Ints.nil _ _, hal.trans (b1.mono hal.size)⟩
end Go.Proofs.Ytiemlaofhmncdaa
