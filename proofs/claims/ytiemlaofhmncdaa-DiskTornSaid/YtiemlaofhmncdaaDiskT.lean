/- The walks of the reference's device, Sync, Crash, chapter 11 (disk). -/
import Derived.Test.YtiemlaofhmncdaaDiskS
import Derived.Deep.RegionLaw
import Derived.Lib.QuoteBits
namespace Go.Proofs.Ytiemlaofhmncdaa
open Go.RowKit Disk11

theorem chunk_take (l : List UInt8) (k : Nat) (hk : k < l.length / 64) : (chunk l).take (k + 1) = (chunk l).take k ++ [(l.drop (64 * k)).take 64] := by
  have hk' : k < (chunk l).length := by rw [chunk_length]; exact hk
  rw [List.take_succ_eq_append_getElem hk']
  congr 2
  have := chunk_get l k hk
  rw [List.getElem?_eq_getElem hk'] at this
  exact Option.some.inj this

set_option maxRecDepth 100000 in
/-- 'append(rows, x)', x one text, as one step of a region that draws its order. -/
theorem step_app_str {ops : Array Oper} {o : Oper} {a : Act} {W : World} {K : Act → World → Prop} {Q : Exit → Act → World → Prop} {E : Prop} {s x : Operand} {v : Value} {l : List (List UInt8)} {n : List UInt8} {g0 : Nat} (hgd : o.guard = none)
    (ho : o.op = .call { callee := .builtin .append, args := #[s, x], argTypes := #[22, 22] })
    (base : Nat) (hs : a.eval s = v) (hown : Txt W base v l) (hx : a.eval x = .slice (some ⟨g0, 0, none⟩) 1 1) (hcell : W.cell? ⟨g0, 0, none⟩ = some (.string ⟨n.toArray⟩))
    (hlen : l.length < 4398046511104) (hbase : base ≤ W.heap.size)
    (h : ∀ g cap w', Txt w' base (.slice (some ⟨g, 0, none⟩) (l.length + 1) cap) (l ++ [n]) → Below base W w' → base ≤ g → K (a.put o.dst (.slice (some ⟨g, 0, none⟩) (l.length + 1) cap)) w') :
    if Region.wanted o (yielded ops a.tmps) = true then Oper.wp Try.prog o a W K Q else E := by
  have hw : Region.wanted o (yielded ops a.tmps) = true := by simp [Region.wanted, hgd]
  rw [if_pos hw]
  obtain ⟨i0, hi, hz0, hz1, hz2⟩ := info_parts infoStr
  have hnews : ∀ j u, [Value.string ⟨n.toArray⟩][j]? = some u → W.cell? ((⟨g0, 0, none⟩ : Addr).add j) = some u := by
    intro j u hj
    match j, hj with
    | 0, hj => simp at hj; subst hj; rw [addr_add]; exact hcell
  refine wp_append_own _ s x 22 ho base 9 i0 (.string ⟨#[]⟩) 1 16 Try.underlying22 hi hz0 hz1 hz2 rfl (by decide) v _ _ hs hown ⟨g0, 0, none⟩ 1 1 [.string ⟨n.toArray⟩] hx rfl
    hnews (by intro u hu; simp at hu; subst hu; rfl) (by unfold maxLen; omega) (by omega) hbase ?_
  intro v' w' hown' hgrow _
  have e : strVals l ++ [.string ⟨n.toArray⟩] = strVals (l ++ [n]) := by rw [strVals_append]; rfl
  rw [e] at hown'
  have hbuf : Txt w' base v' (l ++ [n]) := by unfold Txt; rw [List.length_append]; exact hown'
  have hb : Below base W w' := (Below.refl base W).grown hgrow hbase (fun k hk => (World.ownsRow.lt hown k hk).1)
  rcases hbuf.form with ⟨_, hn⟩ | ⟨g, cap, rfl, hg⟩
  · simp at hn
  · rw [List.length_append] at hbuf ⊢
    exact h g cap w' hbuf hb hg
set_option maxHeartbeats 4000000 in
set_option maxRecDepth 100000 in
theorem deviceR_any (l : List UInt8) (m : Nat) (hm : l.length = 64 * m) (hm2 : m ≤ 4096) (v : Value) (base : Nat) (w : World) (hv : Buf w base v l) :
    Calls Try.prog 47 #[v] w fun e w' => ∃ vb, e = .returned (.agg #[vb, .slice none 0 0]) ∧ w'.ownsRow w.heap.size 9 1 vb m (strVals (chunk l)) ∧ Below w.heap.size w w' := by
  have hform : ∃ ad c, v = .slice ad l.length c := by
    rcases hv.form with ⟨h1, h2⟩ | ⟨g, cap, h1, _⟩
    · exact ⟨_, _, by rw [h1, h2]; rfl⟩
    · exact ⟨_, _, h1⟩
  obtain ⟨ad, cp, hvf⟩ := hform
  go_enter Try.func47, Try.ntmps47
  go_wp2
  obtain ⟨k1, k2, hsz, hbl0⟩ := alloc2 w (.cells #[.slice none 0 0, .slice none 0 0] 25) (.cells #[.slice none 0 0, .slice none 0 0] 25)
  generalize ((w.alloc (.cells #[.slice none 0 0, .slice none 0 0] 25)).alloc (.cells #[.slice none 0 0, .slice none 0 0] 25)) = W0 at *
  subst hvf
  have HM := Lib.hid hm
  clear hm
  go_loopw [4] (fun i wr => ∃ (k q : Nat) (vb : Value), i = .int .i64 q ∧ Hid (q = 64 * k) ∧ k ≤ m ∧ wr.heap[w.heap.size]? = some (.cells #[.slice none 0 0, .slice none 0 0] 25 (0, 0)) ∧ wr.heap[w.heap.size + 1]? = some (.cells #[vb, .slice none 0 0] 25 (0, 0)) ∧ Txt wr (w.heap.size + 2) vb ((chunk l).take k) ∧ Below w.heap.size w wr ∧ w.heap.size + 2 ≤ wr.heap.size) (fun i _ => l.length - (intOf i).toNat)
  case atStart => exact ⟨0, 0, _, rfl, Lib.hid rfl, Nat.zero_le _, k1, k2, by rw [List.take_zero]; exact Txt.nil _ _, hbl0, by omega⟩
  case round =>
    obtain ⟨k, q, vb, rfl, hq, hk, j1, j2, htx, hbl, hs2⟩ := hrel
    obtain ⟨adb, cpb, rfl⟩ := htx.slice
    have c0 := cell2_0 j2
    have c1 := cell2_1 j2
    have f0 := frozen2 j2 0
    have g0 := cell2_0 j1
    have g1 := cell2_1 j1
    have h0 := frozen2 j1 0
    have h1 := frozen2 j1 1
    have hlen : ((chunk l).take k).length = k := by rw [List.length_take, chunk_length, HM.out]; omega
    rw [hlen] at c0 j2 htx
    by_cases hlt : k < m
    · have hqe := hq.out
      have hle := HM.out
      have hlt' : decide ((q : Int) < l.length) = true := by simp; omega
      have hbv : Buf wr base (.slice ad l.length cp) l := hv.below hbl
      obtain ⟨v3, hs3, hcv⟩ := slice_buf (Buf.drew hbv) q 64 (by omega)
      have hs3' : ∀ W, (Instr.slice 61 (.slice ad l.length cp) (some (.int .i64 (q : Int))) (some (.int .i64 ((q : Int) + 64))) none).run Try.prog W = .ok v3 W := hs3
      have hct := chunk_take l k (by omega)
      rw [← hqe] at hct
      obtain ⟨B, hB⟩ : ∃ B, B = (l.drop q).take 64 := ⟨_, rfl⟩
      rw [← hB] at hct hcv
      have hcv' : (convert 61 9 v3).run Try.prog { heap := wr.heap, tape := wr.tape, drawn := wr.drawn + 1, os := wr.os, output := wr.output } = .ok (.string ⟨B.toArray⟩) { heap := wr.heap, tape := wr.tape, drawn := wr.drawn + 1, os := wr.os, output := wr.output } := hcv
      have hwr : IntKind.i64.wrap ((q : Int) + 64) = (q : Int) + 64 := by rw [show (q : Int) + 64 = ((q + 64 : Nat) : Int) by omega]; exact Lib.wrap_i64_small _ (by omega)
      have hlt2 : decide (q < l.length) = true := by simp; omega
      have hHc := Lib.hid hct
      have hq60 : q + 64 ≤ 262144 := by omega
      clear hct hB hqe hle hs3 hcv
      go_wp2
      have hcv0 : (convert 61 9 v3).run Try.prog wr.drew = .ok (.string ⟨B.toArray⟩) wr.drew := hcv'
      have ha := Go.Joins.below_alloc1 wr (.cells #[.string ⟨B.toArray⟩] 9)
      have c0' := cell2_0 (heap_below j2 ha)
      have c1' := cell2_1 (heap_below j2 ha)
      have hta := (htx.alloc (.cells #[.string ⟨B.toArray⟩] 9)).drew
      have hnew : (wr.alloc (.cells #[.string ⟨B.toArray⟩] 9)).drew.cell? ⟨wr.heap.size, 0, none⟩ = some (.string ⟨B.toArray⟩) := cell1 (World.alloc_heap_new wr _)
      go_region_law (refine step_app_str (n := B) rfl rfl (w.heap.size + 2) rfl hta (by simp [go_sem]) hnew (by omega) (by simp; omega) ?_; intro g cap w1 t1 b1 hgb; have j2'' := (b1.block (w.heap.size + 1) (by omega)).trans (heap_below j2 ha.drew); have d0 := cell2_0 j2''; have d1 := frozen2 j2'' 0)
      all_goals go_wp2
      all_goals
        have m1 := one_other (b := w.heap.size + 1) (j := 0) (u := .slice (some ⟨g, 0, none⟩) (k + 1) cap) (by omega) ((b1.block (w.heap.size) (by omega)).trans (heap_below j1 ha.drew))
        have m2 := Lib.heap_setCell_same (i := 0) j2'' (.slice (some ⟨g, 0, none⟩) (k + 1) cap)
        rw [← hHc.out, hlen] at t1
        have hbz : Below w.heap.size w w1 := hbl.trans ((ha.drew.mono hbl.size).trans (b1.mono (by omega)))
        refine ⟨⟨k + 1, q + 64, _, rfl, Lib.hid (by rw [hq.out]; omega), hlt, m1, m2, own_set t1 (by omega), below_set hbz (by omega), ?_⟩, by have := of_decide_eq_true hlt2; simp [intOf]; omega⟩
        exact Nat.le_trans (Nat.le_trans hs2 (Nat.le_trans ha.drew.size b1.size)) (grown_cell w1 _ _ _).size
    · obtain rfl : k = m := by omega
      have hqe := hq.out
      have hle := HM.out
      have hlt' : decide ((q : Int) < l.length) = false := by simp; omega
      have hlt2 : decide (q < l.length) = false := by simp; omega
      have hfull : (chunk l).take k = chunk l := List.take_of_length_le (by rw [chunk_length]; omega)
      rw [hfull] at htx
      clear hqe hle
      go_wp2
      refine bodyPost_ret (results_cell1 rfl _ _ w.heap.size _ _ _ _ rfl (set_two j1) Try.underlying25 rfl (by kernel_rfl)) rfl ⟨_, rfl, ?_, below_set (below_set hbl (Nat.le_refl _)) (Nat.le_refl _)⟩
      have hcl : (chunk l).length = k := by rw [chunk_length, HM.out]; omega
      unfold Txt at htx
      rw [hcl] at htx
      exact own_lower (own_set (own_set htx (by omega)) (by omega)) (by omega)
end Go.Proofs.Ytiemlaofhmncdaa
