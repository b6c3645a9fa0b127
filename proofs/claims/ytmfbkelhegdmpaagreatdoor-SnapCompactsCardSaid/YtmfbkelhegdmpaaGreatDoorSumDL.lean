/- Texts of small laws, one behind the other. -/
import Derived.Test.YtmfbkelhegdmpaaGreatDoorDiskAW
import Derived.Lib.BufferWrite
import Derived.Test.YtmfbkelhegdmpaaGreatDoorKitAll
import Derived.Test.YtmfbkelhegdmpaaGreatDoorSumPlain
import Derived.Handy
import Derived.Outline
import Derived.Lib.Hide
import Derived.WalkSpells
import Derived.Deep.RegionHeld3
import Derived.Deep.DeepMust
import Derived.Deep.RegionWith
import Derived.Test.YtmfbkelhegdmpaaGreatDoorJPlain
import Derived.OwnWalk
/- The walk of lay, chapter 11 (disk). -/
namespace Go.Proofs.YtmfbkelhegdmpaaGreatDoor
open Go.RowKit Disk11

/-- The block b is an array (of tag T) with these bytes. -/
def ArrIs (w : World) (b T : Nat) (l : List UInt8) : Prop := w.heap[b]? = some (.cells (byteVals l).toArray T (0, 0))
theorem byteVals_layF (l x : List UInt8) (o : Nat) : (byteVals l).take o ++ byteVals x ++ (byteVals l).drop (o + x.length) = byteVals (layF l o x) := by
  unfold byteVals layF
  rw [List.map_append, List.map_append, List.map_take, List.map_drop]
theorem byteVals_one (l : List UInt8) : ∀ u ∈ byteVals l, u.oneCell' = true := by
  intro v hv
  unfold byteVals at hv
  rw [List.mem_map] at hv
  obtain ⟨b, _, rfl⟩ := hv
  rfl
/-- 'copy(b[o:], s)': as many bytes as there is room for. -/
theorem run_copy_arr {P : Program} (w : World) (dT sT ty elem b o dLen dCap T : Nat) (s : ByteArray) (l : List UInt8)
    (hu : P.underlying dT = some (.slice elem)) (hs : (P.info? elem).map (·.size) = some 1) (hg : ArrIs w b T l) (hfit : o + Nat.min s.size dLen ≤ l.length) :
    (Builtin.copy_ #[dT, sT] ty #[.slice (some ⟨b, o, none⟩) dLen dCap, .string s]).run P w =
      .ok (goInt (Nat.min s.size dLen)) (w.setRow b (byteVals (layF l o (s.data.toList.take (Nat.min s.size dLen)))).toArray) := by
  have hsz : s.data.toList.length = s.size := by rw [Array.length_toList]; rfl
  have hm : (s.data.toList.take (Nat.min s.size dLen)).length = Nat.min s.size dLen := by
    rw [List.length_take, hsz]; exact Nat.min_eq_left (Nat.min_le_left _ _)
  have hlen : (byteVals (s.data.toList.take (Nat.min s.size dLen))).length = Nat.min s.size dLen := by rw [byteVals_length, hm]
  have hst := run_storeCells_at P b o T (byteVals (s.data.toList.take (Nat.min s.size dLen))) 0 (byteVals l).toArray w hg (by rw [hlen, List.size_toArray, byteVals_length]; simpa using hfit) (byteVals_one _)
  have htk : List.take (Nat.min s.size dLen) (List.map (fun b : UInt8 => Value.int IntKind.u8 (b.toNat : Int)) s.data.toList) = byteVals (s.data.toList.take (Nat.min s.size dLen)) := by
    unfold byteVals
    rw [List.map_take]
  rw [hlen] at hst
  simp only [Nat.add_zero] at hst
  rw [← byteVals_layF, hm]
  cases hq : P.info? elem with
  | none => simp [hq] at hs
  | some i =>
    simp [Builtin.copy_, run_underlying hu, Builtin.lenOf, Builtin.firstCells, sizeOf, typeInfo, hq]
    rw [htk, hst]
    simp [Result.andThen]
theorem layF_over {b x : List UInt8} (h : x.length = b.length) : layF b 0 x = x := by
  unfold layF
  rw [List.take_zero, List.nil_append, Nat.zero_add, List.drop_of_length_le (by omega), List.append_nil]
theorem arr_string {b T : Nat} {l : List UInt8} (w : World) (c : Nat) (h : ArrIs w b T l) : (convert 52 9 (.slice (some ⟨b, 0, none⟩) l.length c)).run Tryz.prog w = .ok (.string ⟨l.toArray⟩) w :=
  run_convert_bytes_back w _ _ 5 _ _ l Tryz.underlying52 Tryz.underlying5 Tryz.underlying9 (fun j hj => by
    rw [addr_add, cell_of_row w b j _ _ _ h]
    rw [List.getElem?_toArray, byteVals_get, List.getElem?_eq_getElem hj]; rfl)
theorem slice_arr (b f : Nat) (hf : f < 64) (W : World) : (Instr.sliceAt 112 (.pointer (some ⟨b, 0, none⟩)) (some (.int .i64 (f : Int))) none none).run Tryz.prog W = .ok (.slice (some ⟨b, f, none⟩) (64 - f) (64 - f)) W := by
  have hl : Tryz.prog.arrayLen 112 = 64 := by kernel_rfl
  have hz : (Go.sizeOf (Tryz.prog.elem 112)).run Tryz.prog W = .ok 1 W := by
    rw [show Tryz.prog.elem 112 = 5 by kernel_rfl]
    exact Tryz.sizeOf5 W
  have hu : Tryz.prog.underlying 112 = some (.array (Tryz.prog.arrayLen 112) (Tryz.prog.elem 112)) := by kernel_rfl
  rw [run_sliceAt_array_l W 112 ⟨b, 0, none⟩ hu .i64 (f : Int) (by omega) (by rw [hl]; omega), hz, hl]
  simp only [Result.andThen, slicedAt, Int.toNat_natCast, Nat.mul_one]
  rw [if_neg (by omega), addr_add]
set_option maxRecDepth 100000 in
theorem slice_str (y : List UInt8) (n : Nat) (h : n ≤ y.length) (W : World) : (Instr.slice 9 (.string ⟨y.toArray⟩) (some (.int .i64 (n : Int))) none none).run Tryz.prog W = .ok (.string ⟨(y.drop n).toArray⟩) W := by
  have hs : (⟨y.toArray⟩ : ByteArray).size = y.length := rfl
  have h := run_slice_string_l (P := Tryz.prog) (w := W) 9 ⟨y.toArray⟩ Tryz.underlying9 .i64 (n : Int) (by omega) (by rw [hs]; omega)
  rw [h]
  congr 2
  apply ByteArray.ext
  rw [ByteArray.data_extract]
  apply Array.ext'
  rw [Array.toList_extract, List.extract_eq_take_drop, List.take_of_length_le (by rw [List.length_drop, hs]; simp)]
  rfl
def strLen : Value → Nat
  | .string s => s.size
  | _ => 0
theorem lay_next {bs : List (List UInt8)} (hw : Whole bs) {q k f n : Nat} {y : List UInt8} (hk : k < bs.length) (hq : q = 64 * k + f) (hf : f < 64) (hn : n = min y.length (64 - f)) (hfit : q + y.length ≤ 64 * bs.length) :
    layF (bs.set k (layF bs[k] f (y.take n))).flatten (q + n) (y.drop n) = layF bs.flatten q y ∧ Whole (bs.set k (layF bs[k] f (y.take n))) := by
  have hl : (y.take n).length = n := by rw [List.length_take]; omega
  obtain ⟨h1, h2⟩ := lay_step hw (x := y.take n) hk (by omega : f + (y.take n).length ≤ 64)
  refine ⟨?_, h2⟩
  have hfl := flatten_length hw
  have := layF_append (b := bs.flatten) (x := y.take n) (y := y.drop n) (p := q) (by rw [hl, List.length_drop, hfl]; omega)
  rw [h1, ← hq, ← hl]
  rw [hl] at this ⊢
  rw [this, List.take_append_drop]

set_option maxHeartbeats 4000000 in
set_option maxRecDepth 100000 in
theorem lay_any (bs : List (List UInt8)) (p : Nat) (x : List UInt8) (v : Value) (base : Nat) (w : World) (hv : w.ownsRow base 9 1 v bs.length (strVals bs)) (hw : Whole bs) (hfit : p + x.length ≤ 64 * bs.length) (hn : bs.length ≤ 4096) (hbase : base ≤ w.heap.size) :
    Calls Tryz.prog 76 #[v, .int .i64 p, .string ⟨x.toArray⟩] w fun e w' => e = .returned (.tuple #[]) ∧ w'.ownsRow base 9 1 v bs.length (strVals (chunk (layF bs.flatten p x))) ∧ Below base w w' ∧ w.grownBy w' v.ownBlock := by
  obtain ⟨T, hT⟩ : ∃ T, T = layF bs.flatten p x := ⟨_, rfl⟩
  rw [← hT]
  have hTl : T.length = 64 * bs.length := by rw [hT, layF_length (by rw [flatten_length hw]; exact hfit), flatten_length hw]
  have HT := Lib.hid hT; clear hT
  obtain ⟨N, hN⟩ : ∃ N, N = bs.length := ⟨_, rfl⟩
  rw [← hN] at hv hfit hn hTl ⊢
  have HN := Lib.hid hN; clear hN
  go_enter Tryz.func76, Tryz.ntmps76
  go_wp2
  go_loopw [1, 2] (fun pa xa wr => ∃ (bs' : List (List UInt8)) (q : Nat) (y : List UInt8), pa = .int .i64 q ∧ xa = .string ⟨y.toArray⟩ ∧ Hid (Whole bs' ∧ bs'.length = N ∧ layF bs'.flatten q y = T) ∧ q + y.length ≤ 64 * N ∧ wr.ownsRow base 9 1 v N (strVals bs') ∧ Below base w wr ∧ w.grownBy wr v.ownBlock)
    (fun _ xa _ => strLen xa)
  case atStart => exact ⟨bs, p, x, rfl, rfl, Lib.hid ⟨hw, HN.out.symm, HT.out.symm⟩, hfit, hv, Below.refl _ _, ⟨rfl, rfl, rfl, Nat.le_refl _, fun _ _ _ => rfl⟩⟩
  case round =>
    obtain ⟨bs', q, y, rfl, rfl, hI, hqy, hown, hbl, hgr⟩ := hrel
    by_cases hy : y = []
    · subst hy
      go_wp2
      obtain ⟨h1, h2, h3⟩ := hI.out
      rw [layF_nil] at h3
      refine bodyPost_end (results_none rfl _ _ _) rfl ⟨rfl, ?_, hbl, hgr⟩
      rw [← h3, chunk_flatten h1]; exact hown
    · have hy' : y.isEmpty = false := by cases y <;> simp_all
      have hyl : 0 < y.length := List.length_pos_iff.2 hy
      obtain ⟨g, cap, cur, hvf, hbg, hgw, hNc, hcm, hcs, htk⟩ : ∃ g cap cur, v = .slice (some ⟨g, 0, none⟩) N cap ∧ base ≤ g ∧ wr.heap[g]? = some (.cells cur 9 (0, 0)) ∧ N ≤ cap ∧ cap ≤ maxLen ∧ cur.size = cap * 1 ∧ cur.toList.take (N * 1) = strVals bs' := by
        rcases hown.2 with ⟨_, h0⟩ | h
        · omega
        · exact h
      subst hvf
      obtain ⟨k, hk⟩ : ∃ k, k = q / 64 := ⟨_, rfl⟩
      obtain ⟨f, hf⟩ : ∃ f, f = q % 64 := ⟨_, rfl⟩
      have e1 : (q : Int) / 64 = (k : Int) := by omega
      have e2 : (q : Int) % 64 = (f : Int) := by omega
      have hkN : k < N := by omega
      have hf64 : f < 64 := by omega
      have hqk : q = 64 * k + f := by omega
      have hkb : k < bs'.length := by rw [hI.out.2.1]; exact hkN
      obtain ⟨B, hB⟩ : ∃ B, B = bs'[k] := ⟨_, rfl⟩
      have hB64 : B.length = 64 := by rw [hB]; exact hI.out.1 _ (List.getElem_mem hkb)
      have hcB := World.ownsRow.cellAt hown k (by omega)
      rw [strVals_at bs' k hkb, ← hB] at hcB
      have hHB := Lib.hid hB
      have hE1 := Lib.hid e1
      have hE2 := Lib.hid e2
      have hQ := Lib.hid hqk
      clear hy hk hf hB e1 e2 hqk
      go_wp2
      rw [hE1.out, hE2.out]
      have ha0 : ArrIs (wr.alloc (.cells (byteVals (List.replicate 64 0)).toArray 112)) wr.heap.size 112 (List.replicate 64 0) := World.alloc_heap_new wr _
      have hal := Go.Joins.below_alloc1 wr (.cells (byteVals (List.replicate 64 0)).toArray 112)
      have how1 := World.ownsRow.alloc hown (.cells (byteVals (List.replicate 64 0)).toArray 112)
      change Code.wp _ _ _ _ (wr.alloc (.cells (byteVals (List.replicate 64 0)).toArray 112))
      generalize wr.alloc (.cells (byteVals (List.replicate 64 0)).toArray 112) = W1 at *
      have hcB1 := cell_below hal hcB
      have hcp := run_copy_arr (P := Tryz.prog) W1.drew 52 9 3 5 wr.heap.size 0 64 64 112 ⟨B.toArray⟩ (List.replicate 64 0) Tryz.underlying52 (by kernel_rfl) ha0 (by show 0 + Nat.min B.length 64 ≤ _; rw [hB64]; decide)
      have hBsz : (⟨B.toArray⟩ : ByteArray).size = 64 := hB64
      rw [hBsz, show Nat.min 64 64 = 64 from rfl, show (⟨B.toArray⟩ : ByteArray).data.toList.take 64 = B from List.take_of_length_le (Nat.le_of_eq hB64), layF_over (by rw [hB64]; rfl)] at hcp
      have ha1 : ArrIs (W1.drew.setRow wr.heap.size (byteVals B).toArray) wr.heap.size 112 B := setRow_heap W1.drew wr.heap.size _ _ _ _ ha0
      have hg1 : W1.grownBy (W1.drew.setRow wr.heap.size (byteVals B).toArray) (some wr.heap.size) := ⟨rfl, rfl, rfl, by simp, fun j _ hj => setRow_other W1.drew _ j _ (fun e => hj (by rw [e]))⟩
      have hlt := (Array.getElem?_eq_some_iff.1 ha0).1
      go_region
      generalize W1.drew.setRow wr.heap.size (byteVals B).toArray = W2 at *
      clear hcp
      obtain ⟨n, hn2⟩ : ∃ n, n = Nat.min y.length (64 - f) := ⟨_, rfl⟩
      have hcp := run_copy_arr (P := Tryz.prog) W2 52 9 3 5 wr.heap.size f (64 - f) (64 - f) 112 ⟨y.toArray⟩ B Tryz.underlying52 (by kernel_rfl) ha1 (by rw [hB64]; exact Nat.le_trans (Nat.add_le_add_left (Nat.min_le_right _ _) f) (by omega))
      rw [show (⟨y.toArray⟩ : ByteArray).size = y.length from rfl, show (⟨y.toArray⟩ : ByteArray).data.toList = y from rfl, ← hn2] at hcp
      obtain ⟨B2, hB2⟩ : ∃ B2, B2 = layF B f (y.take n) := ⟨_, rfl⟩
      rw [← hB2] at hcp
      have hn3 : n = min y.length (64 - f) := hn2
      have hB2l : B2.length = 64 := by
        rw [hB2, layF_length, hB64]
        rw [hB64, List.length_take]; omega
      have ha2 : ArrIs (W2.setRow wr.heap.size (byteVals B2).toArray) wr.heap.size 112 B2 := setRow_heap W2 wr.heap.size _ _ _ _ ha1
      have hg2 : W2.grownBy (W2.setRow wr.heap.size (byteVals B2).toArray) (some wr.heap.size) := ⟨rfl, rfl, rfl, by simp, fun j _ hj => setRow_other W2 _ j _ (fun e => hj (by rw [e]))⟩
      have hgl : g < wr.heap.size := (Array.getElem?_eq_some_iff.1 hgw).1
      have hgW1 := heap_below hgw hal
      have hgW2 := (hg1.block g (Array.getElem?_eq_some_iff.1 hgW1).1 (by simp; omega)).trans hgW1
      have hgW3 := (hg2.block g (Array.getElem?_eq_some_iff.1 hgW2).1 (by simp; omega)).trans hgW2
      have hcv := arr_string (W2.setRow wr.heap.size (byteVals B2).toArray) 64 ha2
      rw [hB2l] at hcv
      have hlt3 := (Array.getElem?_eq_some_iff.1 ha2).1
      have fr3 : (W2.setRow wr.heap.size (byteVals B2).toArray).frozen? ⟨g, k, none⟩ = false := by simp [World.frozen?, hgW3]
      have ce3 : (W2.setRow wr.heap.size (byteVals B2).toArray).cell? ⟨g, k, none⟩ = some (.string ⟨B.toArray⟩) := by
        have e : wr.cell? ⟨g, k, none⟩ = (W2.setRow wr.heap.size (byteVals B2).toArray).cell? ⟨g, k, none⟩ := by simp only [World.cell?, hgw, hgW3]
        rw [← e]; exact hcB
      have hsl := slice_arr wr.heap.size f hf64
      have hHB2 := Lib.hid hB2
      have hHn := Lib.hid hn3
      have hny : n ≤ y.length := by omega
      have hsl2 := slice_str y n hny
      clear hB2 hn2 hn3
      go_wp2
      generalize W2.setRow wr.heap.size (byteVals B2).toArray = W3 at *
      go_region
      go_wp2
      have hw4 := Lib.heap_setCell_same (i := k) hgW3 (.string ⟨B2.toArray⟩)
      obtain ⟨h1, h2⟩ := lay_next hI.out.1 hkb hQ.out hf64 hHn.out (by rw [hI.out.2.1]; exact hqy)
      rw [← hHB.out, ← hHB2.out] at h1 h2
      have hb4 : Below base w (W3.setCell ⟨g, k, none⟩ (.string ⟨B2.toArray⟩)).drew := by
        have b1 : Below base w W1 := hbl.trans (hal.mono (Nat.le_trans hbase hbl.size))
        have b2 : Below base w W2 := b1.grown hg1 (Nat.le_trans hbase b1.size) (fun j e => by cases e; exact Nat.le_trans hbase hbl.size)
        have b3 : Below base w W3 := b2.grown hg2 (Nat.le_trans hbase b2.size) (fun j e => by cases e; exact Nat.le_trans hbase hbl.size)
        exact (below_set b3 hbg).drew
      have hgr4 : w.grownBy (W3.setCell ⟨g, k, none⟩ (.string ⟨B2.toArray⟩)).drew (some g) := by
        have hws := hgr.size
        refine ⟨hb4.os, hb4.tape, hb4.output, hb4.size, fun j hj hjg => ?_⟩
        have h1 := hgr.block j hj hjg
        have h2 := hal.block j (by omega)
        have h3 := hg1.block j (by omega) (by simp; omega)
        have h4 := hg2.block j (by have := hg1.size; omega) (by simp; omega)
        have h5 := (grown_cell W3 g k (.string ⟨B2.toArray⟩)).block j (by have := hg1.size; have := hg2.size; omega) hjg
        show (W3.setCell ⟨g, k, none⟩ (.string ⟨B2.toArray⟩)).heap[j]? = _
        rw [h5, h4, h3, h2, h1]
      refine ⟨⟨bs'.set k B2, q + n, y.drop n, rfl, rfl, Lib.hid ⟨h2, by rw [List.length_set]; exact hI.out.2.1, h1.trans hI.out.2.2⟩, by rw [List.length_drop]; omega, ⟨?_, .inr ⟨g, cap, _, rfl, hbg, hw4, hNc, hcm, ?_, ?_⟩⟩, hb4, hgr4⟩, ?_⟩
      · rw [strVals_length, List.length_set, hI.out.2.1, Nat.mul_one]
      · simpa using hcs
      · rw [Array.toList_setIfInBounds, List.take_set, htk]
        unfold strVals
        rw [List.map_set]
      · show (y.drop n).length < y.length
        rw [List.length_drop]
        have := hHn.out
        omega
end Go.Proofs.YtmfbkelhegdmpaaGreatDoor
/- The walks of CRC32 of chapter 2 (sum), of the program's and of the reference's. -/
namespace Go.Proofs.YtmfbkelhegdmpaaGreatDoor
open Go.RowKit Sum2

/-- The program's table of sixteen registers lies in its block. -/
def Tab (w : World) : Prop := ∀ k, k < 16 → w.cell? ⟨0, k, none⟩ = some (.int .u32 ((tab[k]?.getD 0 : Nat) : Int))

theorem ret_u32 {a b : Int} (h : a = b) : Ending.returned (.int .u32 a) = .returned (.int .u32 b) := by rw [h]
theorem take_snoc' (s : ByteArray) (k : Nat) (h : k < s.size) : s.data.toList.take (k + 1) = s.data.toList.take k ++ [s[k]] := by
  rw [List.take_succ_eq_append_getElem (by simpa using h)]; rfl

theorem byte32_any (r b : Nat) (hr : r < 4294967296) (hb : b < 256) (w : World) (ht : Tab w) :
    Calls Tryz.prog 144 #[.int .u32 r, .int .u8 b] w fun e w' => e = .returned (.int .u32 (byte32 r b : Nat)) ∧ w = w' := by
  obtain ⟨x, hx⟩ : ∃ x : Nat, x = r ^^^ b := ⟨_, rfl⟩
  have hx32 : x < 4294967296 := by rw [hx]; exact Nat.xor_lt_two_pow (n := 32) hr (by omega)
  obtain ⟨k1, hk1⟩ : ∃ k : Nat, k = x % 16 := ⟨_, rfl⟩
  have hk1' : k1 < 16 := by omega
  obtain ⟨t1, ht1⟩ : ∃ t : Nat, t = tab[k1]?.getD 0 := ⟨_, rfl⟩
  have htab : ∀ k, k < 16 → tab[k]?.getD 0 < 4294967296 := by decide
  obtain ⟨y, hy⟩ : ∃ y : Nat, y = (x / 16) ^^^ t1 := ⟨_, rfl⟩
  have ht1' : t1 < 4294967296 := by rw [ht1]; exact htab _ hk1'
  have hy32 : y < 4294967296 := by rw [hy]; exact Nat.xor_lt_two_pow (n := 32) (by omega) ht1'
  obtain ⟨k2, hk2⟩ : ∃ k : Nat, k = y % 16 := ⟨_, rfl⟩
  have hk2' : k2 < 16 := by omega
  obtain ⟨t2, ht2⟩ : ∃ t : Nat, t = tab[k2]?.getD 0 := ⟨_, rfl⟩
  have ht2' : t2 < 4294967296 := by rw [ht2]; exact htab _ hk2'
  obtain ⟨z, hz⟩ : ∃ z : Nat, z = (y / 16) ^^^ t2 := ⟨_, rfl⟩
  have hfin : byte32 r b = z := by rw [byte32_tab, ← hx, ← hk1, ← ht1, ← hy, ← hk2, ← ht2, hz]
  have e1 : bits .xor .u32 (r : Int) (b : Int) = (x : Int) := by rw [hx]; exact u32_xor_nat r b hr (by omega)
  have e2 : bits .and .u32 (x : Int) 15 = (k1 : Int) := by
    have := u32_and_nat x 15 hx32 (by decide); rw [nat_mask4] at this; rw [hk1]; exact this
  have c1 : w.cell? ⟨0, k1, none⟩ = some (.int .u32 (t1 : Int)) := by rw [ht1]; exact ht k1 hk1'
  have e3 : bits .xor .u32 ((x : Int) / 16) (t1 : Int) = (y : Int) := by
    have := u32_xor_nat (x / 16) t1 (by omega) ht1'; rw [hy]; exact this
  have e4 : bits .and .u32 (y : Int) 15 = (k2 : Int) := by
    have := u32_and_nat y 15 hy32 (by decide); rw [nat_mask4] at this; rw [hk2]; exact this
  have c2 : w.cell? ⟨0, k2, none⟩ = some (.int .u32 (t2 : Int)) := by rw [ht2]; exact ht k2 hk2'
  have e5 : bits .xor .u32 ((y : Int) / 16) (t2 : Int) = (z : Int) := by
    have := u32_xor_nat (y / 16) t2 (by omega) ht2'; rw [hz]; exact this
  rw [hfin]
  clear hx hk1 ht1 hy hk2 ht2 hz ht htab hfin
  go_enter Tryz.func144, Tryz.ntmps144
  go_wp2
  go_ret
  exact ⟨rfl, rfl⟩

theorem crc32_any (s : ByteArray) (hs : s.size ≤ 9223372036854775807) (w : World) (ht : Tab w) :
    Calls Tryz.prog 118 #[.string s] w fun e w' => e = .returned (.int .u32 (crc32 s.data.toList : Nat)) ∧ w = w' := by
  have HT := Lib.hid ht; clear ht
  go_enter Tryz.func118, Tryz.ntmps118
  go_wp2_with fail
  go_loop [3, 7] (fun r i => ∃ k q : Nat, k ≤ s.size ∧ i = .int .i64 k ∧ r = .int .u32 q ∧ Hid (q = reg32 4294967295 (s.data.toList.take k)) ∧ q < 4294967296) (fun _ i => s.size - (intOf i).toNat)
  case atStart => exact ⟨0, 4294967295, Nat.zero_le _, rfl, rfl, by simp [Hid, reg32], by decide⟩
  case round =>
    obtain ⟨k, q, hk, rfl, rfl, hq, hq32⟩ := hrel
    by_cases hlt : k < s.size
    · go_wp2_with (go_at_call 144; refine (byte32_any _ _ hq32 (u8lt _) _ HT.out).mono ?_; rintro e w' ⟨rfl, rfl⟩)
      go_round
      case rel => exact ⟨k + 1, byte32 q s[k].toNat, by omega, by go_num, rfl, by
        have := hq.out
        show _ = _
        rw [take_snoc' s k hlt, reg32_append, ← this]; rfl, byte32_lt hq32 (u8lt _)⟩
      case measure => simp [intOf]; omega
    · go_wp2_with fail
      go_ret
      refine ⟨ret_u32 ?_, rfl⟩
      have := hq.out
      rw [List.take_of_length_le (by simp; omega)] at this
      rw [show IntKind.u32.max = ((4294967295 : Nat) : Int) from by decide, u32_xor_nat _ _ (by decide) hq32, this, Nat.xor_comm]
      rfl

theorem Tab.below {w w' : World} (h : Tab w) (hb : Below w.heap.size w w') : Tab w' := by
  intro k hk
  have h1 := h k hk
  have hlt : 0 < w.heap.size := by
    rcases Nat.lt_or_ge 0 w.heap.size with h | h
    · exact h
    · rw [World.cell?, Array.getElem?_eq_none h] at h1; cases h1
  rw [hb.cell hlt]; exact h1



theorem ofNat_mod (a b : Nat) (h : a % 256 = b % 256) : UInt8.ofNat a = UInt8.ofNat b := by
  apply UInt8.toNat_inj.1; rw [UInt8.toNat_ofNat', UInt8.toNat_ofNat']; exact h
theorem text32_0 {T : List UInt8} {x : Nat} (h : T = text32 x) {n : Int} (hn : n.toNat % 256 = x / 16777216 % 256) : T.take 0 ++ [UInt8.ofNat n.toNat] = T.take 1 := by subst h; rw [ofNat_mod _ _ hn]; rfl
theorem text32_1 {T : List UInt8} {x : Nat} (h : T = text32 x) {n : Int} (hn : n.toNat % 256 = x / 65536 % 256) : T.take 1 ++ [UInt8.ofNat n.toNat] = T.take 2 := by subst h; rw [ofNat_mod _ _ hn]; rfl
theorem text32_2 {T : List UInt8} {x : Nat} (h : T = text32 x) {n : Int} (hn : n.toNat % 256 = x / 256 % 256) : T.take 2 ++ [UInt8.ofNat n.toNat] = T.take 3 := by subst h; rw [ofNat_mod _ _ hn]; rfl
theorem text32_3 {T : List UInt8} {x : Nat} (h : T = text32 x) {n : Int} (hn : n.toNat % 256 = x % 256) : T.take 3 ++ [UInt8.ofNat n.toNat] = T.take 4 := by subst h; rw [ofNat_mod _ _ hn]; rfl
theorem rdown_any (x : Nat) (hx : x < 4294967296) (w : World) :
    Calls Tryz.prog 145 #[.int .u32 x] w fun e w' => e = .returned (.int .u32 (down x : Nat)) ∧ w = w' := by
  by_cases h : x % 2 = 1
  · have h1 : ((x : Int) % 2 == 1) = true := by simp; omega
    obtain ⟨z, hz⟩ : ∃ z : Nat, z = (x / 2) ^^^ 0x82F63B78 := ⟨_, rfl⟩
    have e1 : bits .xor .u32 ((x : Int) / 2) 2197175160 = (z : Int) := by
      have := u32_xor_nat (x / 2) 2197175160 (by omega) (by decide); rw [hz]; exact this
    have e : down x = z := by unfold down; rw [if_pos h, hz]
    rw [e]
    clear h hz e
    go_enter Tryz.func145, Tryz.ntmps145
    go_wp2
    go_ret
    exact ⟨rfl, rfl⟩
  · have h1 : ((x : Int) % 2 == 1) = false := by simp; omega
    have e : down x = x / 2 := by unfold down; rw [if_neg h]
    rw [e]
    clear h e
    go_enter Tryz.func145, Tryz.ntmps145
    go_wp2
    go_ret
    exact ⟨rfl, rfl⟩

theorem rbyte32_any (r b : Nat) (hr : r < 4294967296) (hb : b < 256) (w : World) :
    Calls Tryz.prog 119 #[.int .u32 r, .int .u8 b] w fun e w' => e = .returned (.int .u32 (byte32 r b : Nat)) ∧ w = w' := by
  obtain ⟨x, hx⟩ : ∃ x : Nat, x = r ^^^ b := ⟨_, rfl⟩
  have hx32 : x < 4294967296 := by rw [hx]; exact Nat.xor_lt_two_pow (n := 32) hr (by omega)
  have e1 : bits .xor .u32 (r : Int) (b : Int) = (x : Int) := by rw [hx]; exact u32_xor_nat r b hr (by omega)
  have hfin : byte32 r b = iter down 8 x := by rw [hx]; rfl
  rw [hfin]
  clear hx hfin
  go_enter Tryz.func119, Tryz.ntmps119
  go_wp2_with fail
  go_loop [0, 5] (fun r i => ∃ k q : Nat, k ≤ 8 ∧ i = .int .i64 k ∧ r = .int .u32 q ∧ Hid (q = iter down k x) ∧ q < 4294967296) (fun _ i => 8 - (intOf i).toNat)
  case atStart => exact ⟨0, x, by omega, rfl, rfl, rfl, hx32⟩
  case round =>
    obtain ⟨k, q, hk, rfl, rfl, hq, hq32⟩ := hrel
    by_cases hlt : k < 8
    · go_wp2_with (go_at_call 145; refine (rdown_any _ hq32 _).mono ?_; rintro e w' ⟨rfl, rfl⟩)
      go_round
      case rel => exact ⟨k + 1, down q, by omega, by go_num, rfl, by
          show down q = iter down (k + 1) x
          rw [iter_succ', ← hq.out], down_lt hq32⟩
      case measure => simp [intOf]; omega
    · go_wp2_with fail
      go_ret
      obtain rfl : k = 8 := by omega
      exact ⟨ret_u32 (by rw [hq.out]), rfl⟩

theorem rcrc32_any (s : ByteArray) (hs : s.size ≤ 9223372036854775807) (w : World) :
    Calls Tryz.prog 86 #[.string s] w fun e w' => e = .returned (.int .u32 (crc32 s.data.toList : Nat)) ∧ w = w' := by
  go_enter Tryz.func86, Tryz.ntmps86
  go_wp2_with fail
  go_loop [3, 4] (fun r i => ∃ k q : Nat, k ≤ s.size ∧ i = .int .i64 k ∧ r = .int .u32 q ∧ Hid (q = reg32 4294967295 (s.data.toList.take k)) ∧ q < 4294967296) (fun _ i => s.size - (intOf i).toNat)
  case atStart => exact ⟨0, 4294967295, Nat.zero_le _, rfl, rfl, by simp [Hid, reg32], by decide⟩
  case round =>
    obtain ⟨k, q, hk, rfl, rfl, hq, hq32⟩ := hrel
    by_cases hlt : k < s.size
    · go_wp2_with (go_at_call 119; refine (rbyte32_any _ _ hq32 (u8lt _) _).mono ?_; rintro e w' ⟨rfl, rfl⟩)
      go_round
      case rel => exact ⟨k + 1, byte32 q s[k].toNat, by omega, by go_num, rfl, by
        have := hq.out
        show _ = _
        rw [take_snoc' s k hlt, reg32_append, ← this]; rfl, byte32_lt hq32 (u8lt _)⟩
      case measure => simp [intOf]; omega
    · go_wp2_with fail
      go_ret
      refine ⟨ret_u32 ?_, rfl⟩
      have := hq.out
      rw [List.take_of_length_le (by simp; omega)] at this
      have e := u32_xor_nat q 4294967295 hq32 (by decide)
      rw [this] at e ⊢
      exact e

end Go.Proofs.YtmfbkelhegdmpaaGreatDoor
/- The walk of the form of a record of chapter 12 (journal), the program's. -/
namespace Go.Proofs.YtmfbkelhegdmpaaGreatDoor
open Go.RowKit Disk11 Journal12 Sum2

theorem bytes_app (a b : List UInt8) : (⟨a.toArray⟩ : ByteArray) ++ ⟨b.toArray⟩ = ⟨(a ++ b).toArray⟩ := by
  apply ByteArray.ext
  rw [ByteArray.data_append, List.append_toArray]
def headJ (n c : Nat) : List UInt8 := [183, UInt8.ofNat (n / 256), UInt8.ofNat n, 255 - UInt8.ofNat (n / 256), 255 - UInt8.ofNat n, UInt8.ofNat (c / 16777216), UInt8.ofNat (c / 65536), UInt8.ofNat (c / 256), UInt8.ofNat c]
theorem formJ_head (x : List UInt8) : formJ x = headJ x.length (crc32 x) ++ x ++ [183] := by unfold formJ headJ text32; simp
def headCells (n c : Nat) : Array Value := #[.int .u8 183, .int .u8 ((n : Int) / 256), .int .u8 ((n : Int) % 256), .int .u8 (255 - (n : Int) / 256), .int .u8 (255 - (n : Int) % 256), .int .u8 ((c : Int) / 16777216), .int .u8 ((c : Int) / 65536 % 256), .int .u8 ((c : Int) / 256 % 256), .int .u8 ((c : Int) % 256)]
theorem u8_of (n : Nat) : ((UInt8.ofNat n).toNat : Int) = (n : Int) % 256 := by rw [UInt8.toNat_ofNat']; omega
theorem u8_sub (n : Nat) : ((255 - UInt8.ofNat n).toNat : Int) = 255 - (n : Int) % 256 := by
  have h := u8_of n
  have h2 := (UInt8.ofNat n).toNat_lt
  rw [UInt8.toNat_sub]
  have h3 : (255 : UInt8).toNat = 255 := rfl
  rw [h3]
  omega
theorem head_cells (n c : Nat) (hn : n < 65536) (hc : c < 4294967296) : headCells n c = (byteVals (headJ n c)).toArray := by
  unfold headCells headJ byteVals
  simp only [List.map_cons, List.map_nil, u8_of, u8_sub]
  have e1 : ((n / 256 : Nat) : Int) % 256 = (n : Int) / 256 := by omega
  have e2 : ((c / 16777216 : Nat) : Int) % 256 = (c : Int) / 16777216 := by omega
  have e3 : ((c / 65536 : Nat) : Int) % 256 = (c : Int) / 65536 % 256 := by omega
  have e4 : ((c / 256 : Nat) : Int) % 256 = (c : Int) / 256 % 256 := by omega
  rw [e1, e2, e3, e4]
  rfl
theorem head_string {W : World} {n c : Nat} (hn : n < 65536) (hc : c < 4294967296) {b T : Nat} (h : W.heap[b]? = some (.cells (headCells n c) T (0, 0))) :
    (convert 52 9 (.slice (some ⟨b, 0, none⟩) 9 9)).run Tryz.prog W = .ok (.string ⟨(headJ n c).toArray⟩) W := by
  rw [head_cells n c hn hc] at h
  exact arr_string (l := headJ n c) W 9 h

set_option maxHeartbeats 4000000 in
set_option maxRecDepth 100000 in
theorem form_any (x : List UInt8) (hx : x.length ≤ 60000) (w : World) (ht : Tab w) :
    Calls Tryz.prog 110 #[.string ⟨x.toArray⟩] w fun e w' => e = .returned (.string ⟨(formJ x).toArray⟩) ∧ Below w.heap.size w w' := by
  have HC := Lib.hid (fun W h => crc32_any ⟨x.toArray⟩ (by show x.length ≤ _; omega) W h)
  obtain ⟨c, hc⟩ : ∃ c : Nat, c = crc32 x := ⟨_, rfl⟩
  have hc32 : c < 4294967296 := by rw [hc]; exact crc32_lt x
  have hF := Lib.hid (formJ_head x)
  rw [← hc] at HC hF
  obtain ⟨C, hC⟩ : ∃ C, C = headCells x.length c := ⟨_, rfl⟩
  have hk : ((w.alloc (.cells C 183)).alloc (.cells C 5)).heap[w.heap.size]? = some (.cells C 183 (0, 0)) := by
    rw [Below.heap_alloc _ _ _ (by simp)]; exact World.alloc_heap_new w _
  have hcv := head_string (n := x.length) (c := c) (by omega) hc32 (by rw [← hC]; exact hk)
  have hb : Below w.heap.size w ((w.alloc (.cells C 183)).alloc (.cells C 5)) := Go.Joins.below_alloc2 w _ _
  have hcv2 := one_string 183 (by omega) ((w.alloc (.cells C 183)).alloc (.cells C 5))
  rw [World.size_alloc, World.size_alloc, show ((183 : Nat) : Int) = 183 from rfl] at hcv2
  have hB := Lib.hid hb
  obtain ⟨H, hH⟩ : ∃ H, H = headJ x.length c := ⟨_, rfl⟩
  have hHl : H.length ≤ 9 := by rw [hH]; exact Nat.le_refl _
  rw [← hH] at hcv hF
  rw [hC] at hcv hcv2 hB
  unfold headCells at hcv hcv2 hB
  have HT := Lib.hid ht
  clear ht hc hk hb hC hH
  go_enter Tryz.func110, Tryz.ntmps110
  go_wp2_with fail
  refine (HC.out _ HT.out).mono ?_
  rintro e w1 ⟨rfl, rfl⟩
  go_wp2_with fail
  go_ret
  refine ⟨?_, hB.out.alloc (by simp only [World.size_alloc]; omega) _⟩
  rw [hF.out]
  show Ending.returned (.string ((⟨H.toArray⟩ : ByteArray) ++ ⟨x.toArray⟩ ++ ⟨[(183 : UInt8)].toArray⟩)) = _
  rw [bytes_app, bytes_app]
end Go.Proofs.YtmfbkelhegdmpaaGreatDoor
