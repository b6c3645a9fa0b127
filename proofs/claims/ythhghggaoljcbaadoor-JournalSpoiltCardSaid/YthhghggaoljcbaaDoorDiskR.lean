/- The walks of the reference's bytes, laid, read, chapter 11 (disk). -/
import Derived.Test.YthhghggaoljcbaaDoorDiskM
import Derived.Test.YthhghggaoljcbaaDoorDiskX
import Derived.Lib.AppendStr
namespace Go.Proofs.YthhghggaoljcbaaDoor
open Go.RowKit Disk11

/-- A store into a row of the call's own. -/
theorem own_put {w : World} {base e n g cap k : Nat} {xs : List Value} (h : w.ownsRow base e 1 (.slice (some ⟨g, 0, none⟩) n cap) n xs) (u : Value) : (w.setCell ⟨g, k, none⟩ u).ownsRow base e 1 (.slice (some ⟨g, 0, none⟩) n cap) n (xs.set k u) := by
  refine ⟨by rw [List.length_set]; exact h.1, ?_⟩
  rcases h.2 with ⟨h1, _⟩ | ⟨g', cap', cur, h1, hb, hg, hn, hm, hc, ht⟩
  · cases h1
  · cases h1
    refine .inr ⟨g, cap, _, rfl, hb, Lib.heap_setCell_same (i := k) hg u, hn, hm, by simpa using hc, ?_⟩
    rw [Array.toList_setIfInBounds, List.take_set, ht]
theorem own_frozen {w : World} {base e n g cap : Nat} {xs : List Value} (h : w.ownsRow base e 1 (.slice (some ⟨g, 0, none⟩) n cap) n xs) (k : Nat) : w.frozen? ⟨g, k, none⟩ = false := by
  rcases h.2 with ⟨h1, _⟩ | ⟨g', cap', cur, h1, hb, hg, hn, hm, hc, ht⟩
  · cases h1
  · cases h1
    simp [World.frozen?, hg]
theorem layF_set {l x : List UInt8} {p k : Nat} (hk : k < x.length) (hf : p + x.length ≤ l.length) : (layF l p (x.take k)).set (p + k) x[k] = layF l p (x.take (k + 1)) := by
  have h1 : (x.take k).length = k := by rw [List.length_take]; omega
  have h2 : (x.take (k + 1)).length = k + 1 := by rw [List.length_take]; omega
  have hl : (layF l p (x.take k)).length = l.length := layF_length (by omega)
  apply List.ext_getElem?
  intro i
  rw [layF_get (by omega)]
  by_cases hi : i = p + k
  · subst hi
    rw [List.getElem?_set_self (by omega), if_pos (by omega), Nat.add_sub_cancel_left, List.getElem?_take_of_lt (by omega), List.getElem?_eq_getElem hk]
  · rw [List.getElem?_set_ne (by omega), layF_get (by omega), h1, h2]
    by_cases h3 : p ≤ i ∧ i < p + k
    · rw [if_pos h3, if_pos (by omega), List.getElem?_take_of_lt (by omega), List.getElem?_take_of_lt (by omega)]
    · rw [if_neg h3, if_neg (by omega)]

set_option maxHeartbeats 4000000 in
set_option maxRecDepth 100000 in
theorem laidR_any (l x : List UInt8) (p : Nat) (v : Value) (base : Nat) (w : World) (hv : Buf w base v l) (hf : p + x.length ≤ l.length) (hl : l.length ≤ 4398046511104) :
    Calls Tryd.prog 109 #[v, .int .i64 p, .string ⟨x.toArray⟩] w fun e w' => e = .returned v ∧ Buf w' base v (layF l p x) ∧ Below base w w' ∧ w.grownBy w' v.ownBlock := by
  go_enter Tryd.func109, Tryd.ntmps109
  go_wp2
  go_loopw [7] (fun i wr => ∃ k : Nat, i = .int .i64 k ∧ k ≤ x.length ∧ Buf wr base v (layF l p (x.take k)) ∧ Below base w wr ∧ w.grownBy wr v.ownBlock) (fun i _ => x.length - (intOf i).toNat)
  case atStart => exact ⟨0, rfl, Nat.zero_le _, by rw [List.take_zero, layF_nil]; exact hv, Below.refl _ _, ⟨rfl, rfl, rfl, Nat.le_refl _, fun _ _ _ => rfl⟩⟩
  case round =>
    obtain ⟨k, rfl, hk, hown, hbl, hgr⟩ := hrel
    by_cases hlt : k < x.length
    · have hlt' : decide ((k : Int) < x.length) = true := by simp; omega
      have hnl : (layF l p (x.take k)).length = l.length := layF_length (by rw [List.length_take]; omega)
      have hst := layF_set hlt hf
      obtain ⟨c, hc⟩ : ∃ c, c = x[k] := ⟨_, rfl⟩
      rw [← hc] at hst
      obtain ⟨g, cap, hvf, hbg⟩ : ∃ g cap, v = .slice (some ⟨g, 0, none⟩) (layF l p (x.take k)).length cap ∧ base ≤ g := by
        rcases hown.form with ⟨_, h0⟩ | h
        · rw [h0] at hnl; simp at hnl; omega
        · exact h
      rw [hnl] at hvf
      subst hvf
      have hown2 := hown
      unfold Buf at hown2
      rw [hnl] at hown2
      have hcc := World.ownsRow.cellAt hown2 (p + k) (by omega)
      rw [byteVals_get, List.getElem?_eq_getElem (by omega)] at hcc
      generalize (layF l p (x.take k))[p + k]'(by omega) = c0 at hcc
      have hfz := own_frozen hown2 (p + k)
      have hput := own_put (k := p + k) hown2 (.int .u8 (c.toNat : Int))
      rw [show (byteVals (layF l p (x.take k))).set (p + k) (.int .u8 (c.toNat : Int)) = byteVals (layF l p (x.take (k + 1))) by rw [← hst]; unfold byteVals; rw [List.map_set]] at hput
      have hnl2 : (layF l p (x.take (k + 1))).length = l.length := layF_length (by rw [List.length_take]; omega)
      have hcb : ∀ h, (⟨x.toArray⟩ : ByteArray)[k]'h = c := fun h => by rw [hc]; rfl
      have hHc := Lib.hid hcb
      clear hc hst hcb
      go_wp2
      rw [hHc.out]
      have hb2 := below_set (b := g) (j := p + k) (u := .int .u8 (c.toNat : Int)) hbl hbg
      refine ⟨⟨k + 1, rfl, hlt, ?_, hb2, ?_⟩, by simp [intOf]; omega⟩
      · unfold Buf; rw [hnl2]; exact hput
      · exact ⟨hb2.os, hb2.tape, hb2.output, hb2.size, fun j hj hjg => ((grown_cell wr g (p + k) _).block j (Nat.lt_of_lt_of_le hj hgr.size) hjg).trans (hgr.block j hj hjg)⟩
    · obtain rfl : k = x.length := by omega
      have hlt' : decide ((x.length : Int) < x.length) = false := by simp
      rw [List.take_length] at hown
      go_wp2
      go_ret
      exact ⟨rfl, hown, hbl, hgr⟩

set_option maxHeartbeats 4000000 in
set_option maxRecDepth 100000 in
theorem bytesR_any (d : Dev) (v : Value) (w : World) (h : DiskIs w d v) (hg : Disk11.Good d) :
    Calls Tryd.prog 108 #[v] w fun e w' => ∃ v', e = .returned v' ∧ Buf w' w.heap.size v' d.1.flatten ∧ Below w.heap.size w w' := by
  obtain ⟨ab, cb, ac, cc, rfl, _, _, hbc, _⟩ := h.form
  have hal := Go.Joins.below_alloc1 w (.cells #[.slice ab d.1.length cb, .slice ac d.2.length cc] 25)
  have hk1 := World.alloc_heap_new w (.cells #[.slice ab d.1.length cb, .slice ac d.2.length cc] 25)
  have hl := hg.2.1
  have hw := hg.2.2.1
  obtain ⟨i0, hi, hz0, hz1, hz2⟩ := info_parts infoU8
  go_enter Tryd.func108, Tryd.ntmps108
  go_wp2
  have hsz0 : w.heap.size ≤ (w.alloc (.cells #[.slice ab d.1.length cb, .slice ac d.2.length cc] 25)).heap.size := hal.size
  go_loopw [3, 4] (fun o i wr => ∃ k : Nat, i = .int .i64 k ∧ k ≤ d.1.length ∧ wr.ownsRow (w.heap.size + 1) 5 1 o (64 * k) (byteVals (d.1.take k).flatten) ∧ Below (w.heap.size + 1) (w.alloc (.cells #[.slice ab d.1.length cb, .slice ac d.2.length cc] 25)) wr) (fun _ i _ => d.1.length - (intOf i).toNat)
  case atStart => exact ⟨0, rfl, Nat.zero_le _, World.ownsRow_nil _ _ _ _, Below.refl _ _⟩
  case round =>
    obtain ⟨k, rfl, hk, hown, hbl⟩ := hrel
    have hkw : wr.heap[w.heap.size]? = some (.cells #[.slice ab d.1.length cb, .slice ac d.2.length cc] 25) := (hbl.block _ (by omega)).trans hk1
    have c0 := cell2_0 hkw
    have c1 := cell2_1 hkw
    have hbw : Below w.heap.size w wr := hal.trans (hbl.mono (by omega))
    have hsw : w.heap.size + 1 ≤ wr.heap.size := by have := hbl.size; simp at this; omega
    by_cases hlt : k < d.1.length
    · have hlt' : decide ((k : Int) < d.1.length) = true := by simp; omega
      obtain ⟨a, rfl, q0⟩ := hbc k hlt
      have hB64 := hw _ (List.getElem_mem hlt)
      have hfl : (d.1.take (k + 1)).flatten = (d.1.take k).flatten ++ d.1[k] := by
        rw [List.take_succ_eq_append_getElem hlt, List.flatten_append]; simp
      obtain ⟨B, hB⟩ : ∃ B, B = d.1[k] := ⟨_, rfl⟩
      rw [← hB] at q0 hB64 hfl
      have q0' := cell_below hbw q0
      have hHf := Lib.hid hfl
      clear hB hfl q0 hbc
      go_wp2_with (at_builtin; refine Lib.wpList_append_own_string _ rfl _ _ 66 9 rfl (w.heap.size + 1) 5 i0 Tryd.underlying66 Tryd.underlying9 hi hz0 hz1 hz2 _ _ _ rfl hown ⟨B.toArray⟩ rfl (by show _ + B.length ≤ _; unfold maxLen; omega) (by show _ + B.length ≤ _; omega) hsw ?_; intro v1 w1 o1 g1 _)
      have hbl2 := hbl.grown g1 (Nat.le_trans (by simp) hbl.size) (fun j e => (World.ownsRow.lt hown j e).1)
      have e1 : 64 * k + (⟨B.toArray⟩ : ByteArray).size = 64 * (k + 1) := by show 64 * k + B.length = _; omega
      have e2 : byteVals (d.1.take k).flatten ++ Lib.strCells ⟨B.toArray⟩ = byteVals (d.1.take (k + 1)).flatten := by rw [hHf.out, byteVals_append]; rfl
      rw [e1, e2] at o1
      all_goals go_wp2
      exact ⟨⟨k + 1, rfl, hlt, o1, hbl2⟩, by simp [intOf]; omega⟩
    · obtain rfl : k = d.1.length := by omega
      have hlt' : decide ((d.1.length : Int) < d.1.length) = false := by simp
      rw [List.take_length] at hown
      go_wp2
      go_ret
      refine ⟨_, rfl, ?_, hbw⟩
      unfold Buf
      rw [flatten_length hw]
      exact own_lower hown (by omega)
end Go.Proofs.YthhghggaoljcbaaDoor
