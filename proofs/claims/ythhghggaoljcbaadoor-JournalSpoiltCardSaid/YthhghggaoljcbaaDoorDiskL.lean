/- The walk of lay, chapter 11 (disk). -/
import Derived.Test.YthhghggaoljcbaaDoorDiskC
import Derived.Lib.BufferWrite
namespace Go.Proofs.YthhghggaoljcbaaDoor
open Go.RowKit Disk11

/-- The block b is an array (of tag T) with these bytes. -/
def ArrIs (w : World) (b T : Nat) (l : List UInt8) : Prop := w.heap[b]? = some (.cells (byteVals l).toArray T (0, 0))
theorem byteVals_layF (l x : List UInt8) (o : Nat) : (byteVals l).take o ++ byteVals x ++ (byteVals l).drop (o + x.length) = byteVals (layF l o x) := by
  unfold byteVals layF
  rw [List.map_append, List.map_append, List.map_take, List.map_drop]
theorem byteVals_one (l : List UInt8) : ∀ u ∈ byteVals l, u.oneCell' = true := by
  intro v hv
  unfold byteVals at hv
  rw [List.mem_map] at hv
  obtain ⟨b, _, rfl⟩ := hv
  rfl
/-- 'copy(b[o:], s)': as many bytes as there is room for. -/
theorem run_copy_arr {P : Program} (w : World) (dT sT ty elem b o dLen dCap T : Nat) (s : ByteArray) (l : List UInt8)
    (hu : P.underlying dT = some (.slice elem)) (hs : (P.info? elem).map (·.size) = some 1) (hg : ArrIs w b T l) (hfit : o + Nat.min s.size dLen ≤ l.length) :
    (Builtin.copy_ #[dT, sT] ty #[.slice (some ⟨b, o, none⟩) dLen dCap, .string s]).run P w =
      .ok (goInt (Nat.min s.size dLen)) (w.setRow b (byteVals (layF l o (s.data.toList.take (Nat.min s.size dLen)))).toArray) := by
  have hsz : s.data.toList.length = s.size := by rw [Array.length_toList]; rfl
  have hm : (s.data.toList.take (Nat.min s.size dLen)).length = Nat.min s.size dLen := by
    rw [List.length_take, hsz]; exact Nat.min_eq_left (Nat.min_le_left _ _)
  have hlen : (byteVals (s.data.toList.take (Nat.min s.size dLen))).length = Nat.min s.size dLen := by rw [byteVals_length, hm]
  have hst := run_storeCells_at P b o T (byteVals (s.data.toList.take (Nat.min s.size dLen))) 0 (byteVals l).toArray w hg (by rw [hlen, List.size_toArray, byteVals_length]; simpa using hfit) (byteVals_one _)
  have htk : List.take (Nat.min s.size dLen) (List.map (fun b : UInt8 => Value.int IntKind.u8 (b.toNat : Int)) s.data.toList) = byteVals (s.data.toList.take (Nat.min s.size dLen)) := by
    unfold byteVals
    rw [List.map_take]
  rw [hlen] at hst
  simp only [Nat.add_zero] at hst
  rw [← byteVals_layF, hm]
  cases hq : P.info? elem with
  | none => simp [hq] at hs
  | some i =>
    simp [Builtin.copy_, run_underlying hu, Builtin.lenOf, Builtin.firstCells, sizeOf, typeInfo, hq]
    rw [htk, hst]
    simp [Result.andThen]
theorem layF_over {b x : List UInt8} (h : x.length = b.length) : layF b 0 x = x := by
  unfold layF
  rw [List.take_zero, List.nil_append, Nat.zero_add, List.drop_of_length_le (by omega), List.append_nil]
theorem arr_string {b T : Nat} {l : List UInt8} (w : World) (c : Nat) (h : ArrIs w b T l) : (convert 66 9 (.slice (some ⟨b, 0, none⟩) l.length c)).run Tryd.prog w = .ok (.string ⟨l.toArray⟩) w :=
  run_convert_bytes_back w _ _ 5 _ _ l Tryd.underlying66 Tryd.underlying5 Tryd.underlying9 (fun j hj => by
    rw [addr_add, cell_of_row w b j _ _ _ h]
    rw [List.getElem?_toArray, byteVals_get, List.getElem?_eq_getElem hj]; rfl)
theorem slice_arr (b f : Nat) (hf : f < 64) (W : World) : (Instr.sliceAt 130 (.pointer (some ⟨b, 0, none⟩)) (some (.int .i64 (f : Int))) none none).run Tryd.prog W = .ok (.slice (some ⟨b, f, none⟩) (64 - f) (64 - f)) W := by
  have hl : Tryd.prog.arrayLen 130 = 64 := by kernel_rfl
  have hz : (Go.sizeOf (Tryd.prog.elem 130)).run Tryd.prog W = .ok 1 W := by
    rw [show Tryd.prog.elem 130 = 5 by kernel_rfl]
    exact Tryd.sizeOf5 W
  have hu : Tryd.prog.underlying 130 = some (.array (Tryd.prog.arrayLen 130) (Tryd.prog.elem 130)) := by kernel_rfl
  rw [run_sliceAt_array_l W 130 ⟨b, 0, none⟩ hu .i64 (f : Int) (by omega) (by rw [hl]; omega), hz, hl]
  simp only [Result.andThen, slicedAt, Int.toNat_natCast, Nat.mul_one]
  rw [if_neg (by omega), addr_add]
set_option maxRecDepth 100000 in
theorem slice_str (y : List UInt8) (n : Nat) (h : n ≤ y.length) (W : World) : (Instr.slice 9 (.string ⟨y.toArray⟩) (some (.int .i64 (n : Int))) none none).run Tryd.prog W = .ok (.string ⟨(y.drop n).toArray⟩) W := by
  have hs : (⟨y.toArray⟩ : ByteArray).size = y.length := rfl
  have h := run_slice_string_l (P := Tryd.prog) (w := W) 9 ⟨y.toArray⟩ Tryd.underlying9 .i64 (n : Int) (by omega) (by rw [hs]; omega)
  rw [h]
  congr 2
  apply ByteArray.ext
  rw [ByteArray.data_extract]
  apply Array.ext'
  rw [Array.toList_extract, List.extract_eq_take_drop, List.take_of_length_le (by rw [List.length_drop, hs]; simp)]
  rfl
def strLen : Value → Nat
  | .string s => s.size
  | _ => 0
theorem lay_next {bs : List (List UInt8)} (hw : Whole bs) {q k f n : Nat} {y : List UInt8} (hk : k < bs.length) (hq : q = 64 * k + f) (hf : f < 64) (hn : n = min y.length (64 - f)) (hfit : q + y.length ≤ 64 * bs.length) :
    layF (bs.set k (layF bs[k] f (y.take n))).flatten (q + n) (y.drop n) = layF bs.flatten q y ∧ Whole (bs.set k (layF bs[k] f (y.take n))) := by
  have hl : (y.take n).length = n := by rw [List.length_take]; omega
  obtain ⟨h1, h2⟩ := lay_step hw (x := y.take n) hk (by omega : f + (y.take n).length ≤ 64)
  refine ⟨?_, h2⟩
  have hfl := flatten_length hw
  have := layF_append (b := bs.flatten) (x := y.take n) (y := y.drop n) (p := q) (by rw [hl, List.length_drop, hfl]; omega)
  rw [h1, ← hq, ← hl]
  rw [hl] at this ⊢
  rw [this, List.take_append_drop]

set_option maxHeartbeats 4000000 in
set_option maxRecDepth 100000 in
theorem lay_any (bs : List (List UInt8)) (p : Nat) (x : List UInt8) (v : Value) (base : Nat) (w : World) (hv : w.ownsRow base 9 1 v bs.length (strVals bs)) (hw : Whole bs) (hfit : p + x.length ≤ 64 * bs.length) (hn : bs.length ≤ 4096) (hbase : base ≤ w.heap.size) :
    Calls Tryd.prog 67 #[v, .int .i64 p, .string ⟨x.toArray⟩] w fun e w' => e = .returned (.tuple #[]) ∧ w'.ownsRow base 9 1 v bs.length (strVals (chunk (layF bs.flatten p x))) ∧ Below base w w' ∧ w.grownBy w' v.ownBlock := by
  obtain ⟨T, hT⟩ : ∃ T, T = layF bs.flatten p x := ⟨_, rfl⟩
  rw [← hT]
  have hTl : T.length = 64 * bs.length := by rw [hT, layF_length (by rw [flatten_length hw]; exact hfit), flatten_length hw]
  have HT := Lib.hid hT; clear hT
  obtain ⟨N, hN⟩ : ∃ N, N = bs.length := ⟨_, rfl⟩
  rw [← hN] at hv hfit hn hTl ⊢
  have HN := Lib.hid hN; clear hN
  go_enter Tryd.func67, Tryd.ntmps67
  go_wp2
  go_loopw [1, 2] (fun pa xa wr => ∃ (bs' : List (List UInt8)) (q : Nat) (y : List UInt8), pa = .int .i64 q ∧ xa = .string ⟨y.toArray⟩ ∧ Hid (Whole bs' ∧ bs'.length = N ∧ layF bs'.flatten q y = T) ∧ q + y.length ≤ 64 * N ∧ wr.ownsRow base 9 1 v N (strVals bs') ∧ Below base w wr ∧ w.grownBy wr v.ownBlock)
    (fun _ xa _ => strLen xa)
  case atStart => exact ⟨bs, p, x, rfl, rfl, Lib.hid ⟨hw, HN.out.symm, HT.out.symm⟩, hfit, hv, Below.refl _ _, ⟨rfl, rfl, rfl, Nat.le_refl _, fun _ _ _ => rfl⟩⟩
  case round =>
    obtain ⟨bs', q, y, rfl, rfl, hI, hqy, hown, hbl, hgr⟩ := hrel
    by_cases hy : y = []
    · subst hy
      go_wp2
      obtain ⟨h1, h2, h3⟩ := hI.out
      rw [layF_nil] at h3
      refine bodyPost_end (results_none rfl _ _ _) rfl ⟨rfl, ?_, hbl, hgr⟩
      rw [← h3, chunk_flatten h1]; exact hown
    · have hy' : y.isEmpty = false := by cases y <;> simp_all
      have hyl : 0 < y.length := List.length_pos_iff.2 hy
      obtain ⟨g, cap, cur, hvf, hbg, hgw, hNc, hcm, hcs, htk⟩ : ∃ g cap cur, v = .slice (some ⟨g, 0, none⟩) N cap ∧ base ≤ g ∧ wr.heap[g]? = some (.cells cur 9 (0, 0)) ∧ N ≤ cap ∧ cap ≤ maxLen ∧ cur.size = cap * 1 ∧ cur.toList.take (N * 1) = strVals bs' := by
        rcases hown.2 with ⟨_, h0⟩ | h
        · omega
        · exact h
      subst hvf
      obtain ⟨k, hk⟩ : ∃ k, k = q / 64 := ⟨_, rfl⟩
      obtain ⟨f, hf⟩ : ∃ f, f = q % 64 := ⟨_, rfl⟩
      have e1 : (q : Int) / 64 = (k : Int) := by omega
      have e2 : (q : Int) % 64 = (f : Int) := by omega
      have hkN : k < N := by omega
      have hf64 : f < 64 := by omega
      have hqk : q = 64 * k + f := by omega
      have hkb : k < bs'.length := by rw [hI.out.2.1]; exact hkN
      obtain ⟨B, hB⟩ : ∃ B, B = bs'[k] := ⟨_, rfl⟩
      have hB64 : B.length = 64 := by rw [hB]; exact hI.out.1 _ (List.getElem_mem hkb)
      have hcB := World.ownsRow.cellAt hown k (by omega)
      rw [strVals_at bs' k hkb, ← hB] at hcB
      have hHB := Lib.hid hB
      have hE1 := Lib.hid e1
      have hE2 := Lib.hid e2
      have hQ := Lib.hid hqk
      clear hy hk hf hB e1 e2 hqk
      go_wp2
      rw [hE1.out, hE2.out]
      have ha0 : ArrIs (wr.alloc (.cells (byteVals (List.replicate 64 0)).toArray 130)) wr.heap.size 130 (List.replicate 64 0) := World.alloc_heap_new wr _
      have hal := Go.Joins.below_alloc1 wr (.cells (byteVals (List.replicate 64 0)).toArray 130)
      have how1 := World.ownsRow.alloc hown (.cells (byteVals (List.replicate 64 0)).toArray 130)
      change Code.wp _ _ _ _ (wr.alloc (.cells (byteVals (List.replicate 64 0)).toArray 130))
      generalize wr.alloc (.cells (byteVals (List.replicate 64 0)).toArray 130) = W1 at *
      have hcB1 := cell_below hal hcB
      have hcp := run_copy_arr (P := Tryd.prog) W1.drew 66 9 3 5 wr.heap.size 0 64 64 130 ⟨B.toArray⟩ (List.replicate 64 0) Tryd.underlying66 (by kernel_rfl) ha0 (by show 0 + Nat.min B.length 64 ≤ _; rw [hB64]; decide)
      have hBsz : (⟨B.toArray⟩ : ByteArray).size = 64 := hB64
      rw [hBsz, show Nat.min 64 64 = 64 from rfl, show (⟨B.toArray⟩ : ByteArray).data.toList.take 64 = B from List.take_of_length_le (Nat.le_of_eq hB64), layF_over (by rw [hB64]; rfl)] at hcp
      have ha1 : ArrIs (W1.drew.setRow wr.heap.size (byteVals B).toArray) wr.heap.size 130 B := setRow_heap W1.drew wr.heap.size _ _ _ _ ha0
      have hg1 : W1.grownBy (W1.drew.setRow wr.heap.size (byteVals B).toArray) (some wr.heap.size) := ⟨rfl, rfl, rfl, by simp, fun j _ hj => setRow_other W1.drew _ j _ (fun e => hj (by rw [e]))⟩
      have hlt := (Array.getElem?_eq_some_iff.1 ha0).1
      go_region
      generalize W1.drew.setRow wr.heap.size (byteVals B).toArray = W2 at *
      clear hcp
      obtain ⟨n, hn2⟩ : ∃ n, n = Nat.min y.length (64 - f) := ⟨_, rfl⟩
      have hcp := run_copy_arr (P := Tryd.prog) W2 66 9 3 5 wr.heap.size f (64 - f) (64 - f) 130 ⟨y.toArray⟩ B Tryd.underlying66 (by kernel_rfl) ha1 (by rw [hB64]; exact Nat.le_trans (Nat.add_le_add_left (Nat.min_le_right _ _) f) (by omega))
      rw [show (⟨y.toArray⟩ : ByteArray).size = y.length from rfl, show (⟨y.toArray⟩ : ByteArray).data.toList = y from rfl, ← hn2] at hcp
      obtain ⟨B2, hB2⟩ : ∃ B2, B2 = layF B f (y.take n) := ⟨_, rfl⟩
      rw [← hB2] at hcp
      have hn3 : n = min y.length (64 - f) := hn2
      have hB2l : B2.length = 64 := by
        rw [hB2, layF_length, hB64]
        rw [hB64, List.length_take]; omega
      have ha2 : ArrIs (W2.setRow wr.heap.size (byteVals B2).toArray) wr.heap.size 130 B2 := setRow_heap W2 wr.heap.size _ _ _ _ ha1
      have hg2 : W2.grownBy (W2.setRow wr.heap.size (byteVals B2).toArray) (some wr.heap.size) := ⟨rfl, rfl, rfl, by simp, fun j _ hj => setRow_other W2 _ j _ (fun e => hj (by rw [e]))⟩
      have hgl : g < wr.heap.size := (Array.getElem?_eq_some_iff.1 hgw).1
      have hgW1 := heap_below hgw hal
      have hgW2 := (hg1.block g (Array.getElem?_eq_some_iff.1 hgW1).1 (by simp; omega)).trans hgW1
      have hgW3 := (hg2.block g (Array.getElem?_eq_some_iff.1 hgW2).1 (by simp; omega)).trans hgW2
      have hcv := arr_string (W2.setRow wr.heap.size (byteVals B2).toArray) 64 ha2
      rw [hB2l] at hcv
      have hlt3 := (Array.getElem?_eq_some_iff.1 ha2).1
      have fr3 : (W2.setRow wr.heap.size (byteVals B2).toArray).frozen? ⟨g, k, none⟩ = false := by simp [World.frozen?, hgW3]
      have ce3 : (W2.setRow wr.heap.size (byteVals B2).toArray).cell? ⟨g, k, none⟩ = some (.string ⟨B.toArray⟩) := by
        have e : wr.cell? ⟨g, k, none⟩ = (W2.setRow wr.heap.size (byteVals B2).toArray).cell? ⟨g, k, none⟩ := by simp only [World.cell?, hgw, hgW3]
        rw [← e]; exact hcB
      have hsl := slice_arr wr.heap.size f hf64
      have hHB2 := Lib.hid hB2
      have hHn := Lib.hid hn3
      have hny : n ≤ y.length := by omega
      have hsl2 := slice_str y n hny
      clear hB2 hn2 hn3
      go_wp2
      generalize W2.setRow wr.heap.size (byteVals B2).toArray = W3 at *
      go_region
      go_wp2
      have hw4 := Lib.heap_setCell_same (i := k) hgW3 (.string ⟨B2.toArray⟩)
      obtain ⟨h1, h2⟩ := lay_next hI.out.1 hkb hQ.out hf64 hHn.out (by rw [hI.out.2.1]; exact hqy)
      rw [← hHB.out, ← hHB2.out] at h1 h2
      have hb4 : Below base w (W3.setCell ⟨g, k, none⟩ (.string ⟨B2.toArray⟩)).drew := by
        have b1 : Below base w W1 := hbl.trans (hal.mono (Nat.le_trans hbase hbl.size))
        have b2 : Below base w W2 := b1.grown hg1 (Nat.le_trans hbase b1.size) (fun j e => by cases e; exact Nat.le_trans hbase hbl.size)
        have b3 : Below base w W3 := b2.grown hg2 (Nat.le_trans hbase b2.size) (fun j e => by cases e; exact Nat.le_trans hbase hbl.size)
        exact (below_set b3 hbg).drew
      have hgr4 : w.grownBy (W3.setCell ⟨g, k, none⟩ (.string ⟨B2.toArray⟩)).drew (some g) := by
        have hws := hgr.size
        refine ⟨hb4.os, hb4.tape, hb4.output, hb4.size, fun j hj hjg => ?_⟩
        have h1 := hgr.block j hj hjg
        have h2 := hal.block j (by omega)
        have h3 := hg1.block j (by omega) (by simp; omega)
        have h4 := hg2.block j (by have := hg1.size; omega) (by simp; omega)
        have h5 := (grown_cell W3 g k (.string ⟨B2.toArray⟩)).block j (by have := hg1.size; have := hg2.size; omega) hjg
        show (W3.setCell ⟨g, k, none⟩ (.string ⟨B2.toArray⟩)).heap[j]? = _
        rw [h5, h4, h3, h2, h1]
      refine ⟨⟨bs'.set k B2, q + n, y.drop n, rfl, rfl, Lib.hid ⟨h2, by rw [List.length_set]; exact hI.out.2.1, h1.trans hI.out.2.2⟩, by rw [List.length_drop]; omega, ⟨?_, .inr ⟨g, cap, _, rfl, hbg, hw4, hNc, hcm, ?_, ?_⟩⟩, hb4, hgr4⟩, ?_⟩
      · rw [strVals_length, List.length_set, hI.out.2.1, Nat.mul_one]
      · simpa using hcs
      · rw [Array.toList_setIfInBounds, List.take_set, htk]
        unfold strVals
        rw [List.map_set]
      · show (y.drop n).length < y.length
        rw [List.length_drop]
        have := hHn.out
        omega
end Go.Proofs.YthhghggaoljcbaaDoor
