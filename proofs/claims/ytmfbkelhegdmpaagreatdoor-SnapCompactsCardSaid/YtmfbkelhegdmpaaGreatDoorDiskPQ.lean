/- Texts of small laws, one behind the other. -/
import Derived.Test.YtmfbkelhegdmpaaGreatDoorSumDL
import Derived.Test.YtmfbkelhegdmpaaGreatDoorDiskAW
import Derived.Test.YtmfbkelhegdmpaaGreatDoorShelf
import Derived.OwnWalk
import Derived.Laws.CopyRow
import Derived.Test.YtmfbkelhegdmpaaGreatDoorDiskMU
/- The walks of slices.Repeat and New, chapter 11 (disk). -/
namespace Go.Proofs.YtmfbkelhegdmpaaGreatDoor
open Go.RowKit Disk11

/-- The block g holds just these texts. -/
def RowIs (w : World) (g : Nat) (l : List (List UInt8)) : Prop := w.heap[g]? = some (.cells (strVals l).toArray 9 (0, 0))
set_option maxRecDepth 100000 in
theorem copy_txt (w : World) (g o dLen dCap sLen sCap : Nat) (a : Addr) (l c : List (List UInt8)) (hg : RowIs w g l) (hn : c.length = Nat.min sLen dLen)
    (hsrc : ∀ j v, (strVals c)[j]? = some v → w.cell? (a.add j) = some v) (hfit : o + c.length ≤ l.length) :
    (Builtin.copy_ #[26, 26] 3 #[.slice (some ⟨g, o, none⟩) dLen dCap, .slice (some a) sLen sCap]).run Tryz.prog w =
      .ok (goInt c.length) (w.setRow g (strVals (l.take o ++ c ++ l.drop (o + c.length))).toArray) := by
  have := run_copy_row (P := Tryz.prog) w 26 26 3 9 g o dLen dCap a sLen sCap (strVals l).toArray 9 (strVals c) Tryz.underlying26 (by kernel_rfl) hg (by rw [strVals_length]; exact hn) hsrc (by rw [strVals_length, List.size_toArray, strVals_length]; exact hfit) (strVals_one c)
  rw [strVals_length] at this
  rw [this]
  congr 2
  unfold strVals
  rw [List.map_append, List.map_append, List.map_take, List.map_drop]
theorem slice_txt (ad : Addr) (n l h : Nat) (h1 : l ≤ h) (h2 : h ≤ n) (W : World) : (Instr.slice 26 (.slice (some ad) n n) (some (.int .i64 (l : Int))) none none).run Tryz.prog W = .ok (.slice (some (if n = l then ad else ad.add l)) (n - l) (n - l)) W ∧
    (Instr.slice 26 (.slice (some ad) n n) none (some (.int .i64 (h : Int))) none).run Tryz.prog W = .ok (.slice (some ad) h n) W := by
  have hu : Tryz.prog.underlying 26 = some (.slice (Tryz.prog.elem 26)) := by kernel_rfl
  have hz : (Go.sizeOf (Tryz.prog.elem 26)).run Tryz.prog W = .ok 1 W := by
    rw [show Tryz.prog.elem 26 = 9 by kernel_rfl]
    exact Tryz.sizeOf9 W
  constructor
  · rw [run_slice_l (P := Tryz.prog) W 26 (some ad) n n hu .i64 (l : Int) (by omega) (by omega), hz]
    simp only [Result.andThen, sliced, Int.toNat_natCast, Nat.mul_one]
    by_cases e : n = l
    · rw [if_pos e, if_pos e]
    · rw [if_neg e, if_neg e]; rfl
  · rw [run_slice_h (P := Tryz.prog) W 26 (some ad) n n hu .i64 (h : Int) (by omega) (by omega), hz]
    simp only [Result.andThen, sliced, Int.toNat_natCast, Nat.sub_zero, Nat.zero_mul]
    split
    · rfl
    · simp [Addr.add]

theorem made_txt {w : World} {base g n : Nat} (h : w.ownsRow base 9 1 (.slice (some ⟨g, 0, none⟩) n n) n (madeCells (Value.cells (.string ⟨#[]⟩)) (n * 1)).toList) : RowIs w g (List.replicate n []) := by
  have e : (madeCells (Value.cells (.string ⟨#[]⟩)) (n * 1)).toList = strVals (List.replicate n []) := by
    apply List.ext_getElem?
    intro i
    unfold madeCells strVals
    by_cases h : i < n
    · simp [Value.cells, h, Nat.mod_one]
    · simp [h]
  rw [e] at h
  rcases h.2 with ⟨h1, _⟩ | ⟨g', cap, cur, h1, _, hg, _, _, hc, ht⟩
  · cases h1
  · cases h1
    unfold RowIs
    rw [hg, ← ht, List.take_of_length_le (by rw [Array.length_toList]; omega)]
theorem cell_below' {w w' : World} {a : Addr} {x : Value} (hg : w.grownBy w' none) (h : w.cell? a = some x) : w'.cell? a = some x := by
  have := hg.block a.block (cell_lt h) (by simp)
  unfold World.cell? at *
  rw [this]; exact h
theorem src_one {w : World} {g : Nat} {b : List UInt8} (h : w.cell? ⟨g, 0, none⟩ = some (.string ⟨b.toArray⟩)) : ∀ j v, (strVals [b])[j]? = some v → w.cell? ((⟨g, 0, none⟩ : Addr).add j) = some v := by
  intro j v hj
  match j, hj with
  | 0, hj => simp [strVals] at hj; subst hj; rw [addr_add]; exact h
set_option maxHeartbeats 4000000 in
set_option maxRecDepth 100000 in
theorem repeat_any (b : List UInt8) (n : Nat) (g0 : Nat) (w : World) (h1 : 1 ≤ n) (h2 : n ≤ 4096) (hc : w.cell? ⟨g0, 0, none⟩ = some (.string ⟨b.toArray⟩)) :
    Calls Tryz.prog 79 #[.slice (some ⟨g0, 0, none⟩) 1 1, .int .i64 n] w fun e w' => ∃ v', e = .returned v' ∧ w'.ownsRow w.heap.size 9 1 v' n (strVals (List.replicate n b)) ∧ Below w.heap.size w w' := by
  have hm : ∀ W, Calls Tryz.prog 114 #[.int .u64 1, .int .u64 n] W fun e w' => e = .returned (.tuple #[.int .u64 0, .int .u64 n]) ∧ w' = W := by
    intro W
    have h := Tryz.bits_Mul 1 n (by omega) (by omega) W
    rw [Nat.one_mul, Nat.div_eq_of_lt (by omega), Nat.mod_eq_of_lt (by omega)] at h
    exact h
  have hM := Lib.hid hm
  clear hm
  obtain ⟨i0, hi, hz0, hz1, hz2⟩ := info_parts infoStr
  have hn0 : decide ((n : Int) < 0) = false := by simp
  go_enter Tryz.func79, Tryz.ntmps79
  go_wp2_with fail
  refine (hM.out _).mono ?_
  rintro e w1 ⟨rfl, hw⟩
  subst w1
  go_wp2_with (refine wpList_make_full _ rfl _ _ 26 rfl w.heap.size 9 i0 (.string ⟨#[]⟩) 1 Tryz.underlying26 hi hz0 hz1 .i64 .i64 (n : Int) (n : Int) n rfl rfl rfl rfl (by rw [hz2]; omega) (by unfold maxLen; omega) (Nat.le_refl _) ?_; intro w1 o1 g1
               have hr0 := made_txt o1
               have hcp := copy_txt w1 w.heap.size 0 n n 1 1 ⟨g0, 0, none⟩ (List.replicate n []) [b] hr0 (by show 1 = Nat.min 1 n; exact (Nat.min_eq_left h1).symm) (src_one (cell_below' g1 hc)) (by simp; omega)
               rw [List.length_singleton] at hcp)
  have hr1 : RowIs (w1.setRow w.heap.size (strVals (b :: List.replicate (n - 1) [])).toArray) w.heap.size (b :: List.replicate (n - 1) []) := setRow_heap w1 w.heap.size _ _ _ _ hr0
  have hb1 : Below w.heap.size w (w1.setRow w.heap.size (strVals (b :: List.replicate (n - 1) [])).toArray) := ((Below.refl _ w).grown g1 (Nat.le_refl _) (fun j e => by cases e)).trans ⟨rfl, rfl, rfl, by simp, fun k hk => setRow_other w1 _ k _ (by omega)⟩
  generalize w1.setRow w.heap.size (strVals (b :: List.replicate (n - 1) [])).toArray = W1 at *
  clear hcp hr0 o1
  go_loopw [8] (fun i wr => ∃ (m : Nat) (l : List (List UInt8)), i = .int .i64 m ∧ 1 ≤ m ∧ m ≤ n ∧ RowIs wr w.heap.size l ∧ Hid (l.length = n ∧ l.take m = List.replicate m b) ∧ Below w.heap.size w wr) (fun i _ => n - (intOf i).toNat)
  case atStart => exact ⟨1, _, rfl, Nat.le_refl _, h1, hr1, Lib.hid ⟨by simp; omega, by simp⟩, hb1⟩
  case round =>
    obtain ⟨m, l, rfl, hm1, hmn, hrow, hl, hbl⟩ := hrel
    by_cases hlt : m < n
    · have hlt' : decide ((m : Int) < n) = true := by simp; omega
      obtain ⟨k, hk⟩ : ∃ k, k = Nat.min m (n - m) := ⟨_, rfl⟩
      have hk' : k = min m (n - m) := hk
      have hct : l.take k = List.replicate k b := by
        have h := congrArg (List.take k) hl.out.2
        rw [List.take_take, Nat.min_eq_left (by omega)] at h
        rw [h, List.take_replicate, Nat.min_eq_left (by omega)]
      have hs1 := fun W => (slice_txt ⟨w.heap.size, 0, none⟩ n m n (by omega) (Nat.le_refl _) W).1
      have hs2 := fun W => (slice_txt ⟨w.heap.size, 0, none⟩ n m m (Nat.le_refl _) hmn W).2
      rw [if_neg (by omega), addr_add] at hs1
      have hcp := copy_txt wr.drew w.heap.size m (n - m) (n - m) m n ⟨w.heap.size, 0, none⟩ l (l.take k) hrow (by rw [List.length_take, hl.out.1, ← hk]; omega) (fun j v hj => by
        have hjl : j < (l.take k).length := by
          rw [← strVals_length]
          rcases Nat.lt_or_ge j (strVals (l.take k)).length with h | h
          · exact h
          · rw [List.getElem?_eq_none h] at hj; cases hj
        have e : (strVals (l.take k))[j]? = (strVals l)[j]? := by
          rw [strVals_get, strVals_get, List.getElem?_take_of_lt (by rw [List.length_take] at hjl; omega)]
        rw [addr_add, cell_of_row wr.drew w.heap.size j _ _ _ hrow, List.getElem?_toArray, ← e]; exact hj) (by rw [List.length_take, hl.out.1]; omega)
      have hlen : (l.take k).length = k := by rw [List.length_take, hl.out.1]; omega
      rw [hlen] at hcp
      obtain ⟨l2, hl2⟩ : ∃ l2, l2 = l.take m ++ l.take k ++ l.drop (m + k) := ⟨_, rfl⟩
      rw [← hl2] at hcp
      have hr2 : RowIs (wr.drew.setRow w.heap.size (strVals l2).toArray) w.heap.size l2 := setRow_heap wr.drew w.heap.size _ _ _ _ hrow
      have hb2 : Below w.heap.size w (wr.drew.setRow w.heap.size (strVals l2).toArray) := hbl.drew.trans ⟨rfl, rfl, rfl, by simp, fun k hk => setRow_other wr.drew _ k _ (by omega)⟩
      have hl2p : l2.length = n ∧ l2.take (m + k) = List.replicate (m + k) b := by
        have h1 := hl.out.1
        have h2 : (l.take m ++ l.take k).length = m + k := by rw [List.length_append, List.length_take, List.length_take]; omega
        refine ⟨by rw [hl2, List.length_append, h2, List.length_drop]; omega, ?_⟩
        rw [hl2, List.take_append_of_le_length (by omega), List.take_of_length_le (by omega), hl.out.2, hct, List.replicate_append_replicate]
      have hHl := Lib.hid hl2p
      have hkp : 1 ≤ k := by omega
      have hkn : m + k ≤ n := by omega
      clear hl2p hl2 hct hk hk' hlen
      go_wp2
      go_region
      go_wp2
      exact ⟨⟨m + k, l2, rfl, by omega, hkn, hr2, hHl, hb2⟩, by simp [intOf]; omega⟩
    · obtain rfl : m = n := by omega
      have hlt' : decide ((m : Int) < m) = false := by simp
      have hle : l = List.replicate m b := by
        have := hl.out.2
        rw [List.take_of_length_le (by rw [hl.out.1]; exact Nat.le_refl _)] at this; exact this
      subst hle
      go_wp2
      go_ret
      exact ⟨_, rfl, ⟨by rw [strVals_length, List.length_replicate, Nat.mul_one], .inr ⟨w.heap.size, m, _, rfl, Nat.le_refl _, hrow, Nat.le_refl _, by unfold maxLen; omega, by simp [strVals_length], by simp [List.take_of_length_le, strVals_length]⟩⟩, hbl⟩
end Go.Proofs.YtmfbkelhegdmpaaGreatDoor
/- The walk of the reference's New, chapter 11 (disk). -/
namespace Go.Proofs.YtmfbkelhegdmpaaGreatDoor
open Go.RowKit Disk11

def zstr : ByteArray := ⟨#[0, 0, 0, 0, 0, 0, 0, 0, 0, 0, 0, 0, 0, 0, 0, 0, 0, 0, 0, 0, 0, 0, 0, 0, 0, 0, 0, 0, 0, 0, 0, 0, 0, 0, 0, 0, 0, 0, 0, 0, 0, 0, 0, 0, 0, 0, 0, 0, 0, 0, 0, 0, 0, 0, 0, 0, 0, 0, 0, 0, 0, 0, 0, 0]⟩
def zeros64 : Array Value := #[.int .u8 0, .int .u8 0, .int .u8 0, .int .u8 0, .int .u8 0, .int .u8 0, .int .u8 0, .int .u8 0, .int .u8 0, .int .u8 0, .int .u8 0, .int .u8 0, .int .u8 0, .int .u8 0, .int .u8 0, .int .u8 0, .int .u8 0, .int .u8 0, .int .u8 0, .int .u8 0, .int .u8 0, .int .u8 0, .int .u8 0, .int .u8 0, .int .u8 0, .int .u8 0, .int .u8 0, .int .u8 0, .int .u8 0, .int .u8 0, .int .u8 0, .int .u8 0, .int .u8 0, .int .u8 0, .int .u8 0, .int .u8 0, .int .u8 0, .int .u8 0, .int .u8 0, .int .u8 0, .int .u8 0, .int .u8 0, .int .u8 0, .int .u8 0, .int .u8 0, .int .u8 0, .int .u8 0, .int .u8 0, .int .u8 0, .int .u8 0, .int .u8 0, .int .u8 0, .int .u8 0, .int .u8 0, .int .u8 0, .int .u8 0, .int .u8 0, .int .u8 0, .int .u8 0, .int .u8 0, .int .u8 0, .int .u8 0, .int .u8 0, .int .u8 0]
theorem make64 (w : World) : (Instr.makeSlice 52 (.int .i64 64) (.int .i64 64)).run Tryz.prog w.drew = .ok (.slice (some ⟨w.heap.size, 0, none⟩) 64 64) (w.alloc (.cells zeros64 5)).drew := by
  obtain ⟨i0, hi, hz0, hz1, hz2⟩ := info_parts infoU8
  have h := run_make (P := Tryz.prog) w.drew 52 5 i0 (.int .u8 0) Tryz.underlying52 hi hz0 .i64 .i64 64 64 (by decide) (by decide) (by rw [hz2]; decide) (by decide)
  rw [hz1] at h
  rw [h]
  have e : madeCells (Value.int .u8 0).cells ((64 : Int).toNat * 1) = zeros64 := by unfold madeCells zeros64; kernel_rfl
  rw [e]; rfl
set_option maxHeartbeats 4000000 in
set_option maxRecDepth 100000 in
theorem RNew_any (n : Int) (w : World) :
    Calls Tryz.prog 42 #[.int .i64 n] w fun e w' => ∃ v', e = .returned (.tuple #[v', .int .i64 (newD n).2]) ∧ DiskIs w' (newD n).1 v' ∧ Below w.heap.size w w' := by
  obtain ⟨r, hr⟩ : ∃ r, r = newD n := ⟨_, rfl⟩
  rw [← hr]
  unfold newD at hr
  have hk := World.alloc_heap_new w (.cells #[.slice none 0 0, .slice none 0 0] 29)
  have hal := Go.Joins.below_alloc1 w (.cells #[.slice none 0 0, .slice none 0 0] 29)
  have c0 := cell2_0 hk
  have c1 := cell2_1 hk
  have f0 := frozen2 hk 0
  have f1 := frozen2 hk 1
  by_cases h1 : n < 1
  · have h1' : decide (n < 1) = true := by simpa using h1
    have hr2 : r = (none0, 2) := by rw [hr, if_pos (.inl h1)]
    clear hr h1
    subst hr2
    go_enter Tryz.func42, Tryz.ntmps42
    go_wp2
    refine bodyPost_ret (results_cell_tmp rfl _ _ w.heap.size _ _ _ _ rfl hk Tryz.underlying29 rfl (by kernel_rfl)) rfl ⟨_, rfl, DiskIs.none _, hal⟩
  · have h1' : decide (n < 1) = false := by simp; omega
    by_cases h2 : 4096 < n
    · have h2' : decide (4096 < n) = true := by simpa using h2
      have hr2 : r = (none0, 2) := by rw [hr, if_pos (.inr h2)]
      clear hr h1 h2
      subst hr2
      go_enter Tryz.func42, Tryz.ntmps42
      go_wp2
      refine bodyPost_ret (results_cell_tmp rfl _ _ w.heap.size _ _ _ _ rfl hk Tryz.underlying29 rfl (by kernel_rfl)) rfl ⟨_, rfl, DiskIs.none _, hal⟩
    · have h2' : decide (4096 < n) = false := by simp; omega
      rw [if_neg (by omega)] at hr
      obtain ⟨m, rfl⟩ : ∃ m : Nat, n = (m : Int) := ⟨n.toNat, by omega⟩
      rw [Int.toNat_natCast] at hr
      have hm2 : m ≤ 4096 := by omega
      have hHr := Lib.hid hr
      clear hr h1 h2
      go_enter Tryz.func42, Tryz.ntmps42
      go_wp2
      obtain ⟨k1, k2, hsz, hbl0⟩ := alloc2 w (.cells #[.slice none 0 0, .slice none 0 0] 29) (.cells #[.slice none 0 0, .slice none 0 0] 29)
      generalize ((w.alloc (.cells #[.slice none 0 0, .slice none 0 0] 29)).alloc (.cells #[.slice none 0 0, .slice none 0 0] 29)) = W0 at *
      clear c0 c1 f0 f1
      go_loopw [5] (fun i wr => ∃ (k : Nat) (vb : Value), i = .int .i64 k ∧ k ≤ m ∧ wr.heap[w.heap.size]? = some (.cells #[.slice none 0 0, .slice none 0 0] 29 (0, 0)) ∧ wr.heap[w.heap.size + 1]? = some (.cells #[vb, .slice none 0 0] 29 (0, 0)) ∧ Txt wr (w.heap.size + 2) vb (List.replicate k (List.replicate 64 0)) ∧ Below w.heap.size w wr ∧ w.heap.size + 2 ≤ wr.heap.size) (fun i _ => m - (intOf i).toNat)
      case atStart => exact ⟨0, _, rfl, Nat.zero_le _, k1, k2, Txt.nil _ _, hbl0, by omega⟩
      case round =>
        obtain ⟨k, vb, rfl, hk, j1, j2, htx, hbl, hs2⟩ := hrel
        obtain ⟨adb, cpb, rfl⟩ := htx.slice
        rw [List.length_replicate] at j2 htx
        have c0 := cell2_0 j2
        have c1 := cell2_1 j2
        have f0 := frozen2 j2 0
        have g0 := cell2_0 j1
        have g1 := cell2_1 j1
        have h0 := frozen2 j1 0
        have h1 := frozen2 j1 1
        by_cases hlt : k < m
        · have hlt' : decide ((k : Int) < m) = true := by simp; omega
          have hA : ArrIs (wr.alloc (.cells zeros64 5)) wr.heap.size 5 (List.replicate 64 0) := World.alloc_heap_new wr _
          have hcv := arr_string _ 64 hA
          rw [show (List.replicate 64 (0 : UInt8)).length = 64 from rfl] at hcv
          have hcv2 : (convert 52 9 (.slice (some ⟨wr.heap.size, 0, none⟩) 64 64)).run Tryz.prog (wr.alloc (.cells zeros64 5)).drew = .ok (.string zstr) (wr.alloc (.cells zeros64 5)).drew := by
            have := arr_string (wr.alloc (.cells zeros64 5)).drew 64 (show ArrIs _ wr.heap.size 5 (List.replicate 64 0) from hA)
            rw [show (List.replicate 64 (0 : UInt8)).length = 64 from rfl] at this
            exact this
          have ha1 := Go.Joins.below_alloc1 wr (.cells zeros64 5)
          have ha2 := Go.Joins.below_alloc2 wr (.cells zeros64 5) (.cells #[.string zstr] 9)
          have d0 := cell2_0 (heap_below j2 ha1)
          have d1 := cell2_0 (heap_below j2 ha2)
          have hta := (htx.alloc (.cells zeros64 5)).alloc (.cells #[.string zstr] 9)
          have hnew := (alloc2 wr (.cells zeros64 5) (.cells #[.string zstr] 9)).2.1
          have hmk := make64 wr
          have hnew' := cell1 hnew
          simp only [zeros64, zstr] at hcv2 ha2 d1 hta hnew' hmk hcv ha1 d0
          clear hA
          go_wp2
          go_region_law (refine step_app_str (n := List.replicate 64 0) rfl rfl (w.heap.size + 2) rfl hta.drew (by simp [go_sem]) hnew' (by simp; omega) (by simp; omega) ?_; intro g cap w1 t1 b1 hgb; have j2'' := (b1.block (w.heap.size + 1) (by omega)).trans (heap_below j2 ha2.drew); have d0 := cell2_0 j2''; have d1 := frozen2 j2'' 0)
          all_goals go_wp2
          all_goals
            have m1 := one_other (b := w.heap.size + 1) (j := 0) (u := .slice (some ⟨g, 0, none⟩) (k + 1) cap) (by omega) ((b1.block (w.heap.size) (by omega)).trans (heap_below j1 ha2.drew))
            have m2 := Lib.heap_setCell_same (i := 0) j2'' (.slice (some ⟨g, 0, none⟩) (k + 1) cap)
            rw [List.length_replicate, show List.replicate k (List.replicate 64 (0 : UInt8)) ++ [List.replicate 64 0] = List.replicate (k + 1) (List.replicate 64 0) from (List.replicate_succ' ..).symm] at t1
            have hbz : Below w.heap.size w w1 := hbl.trans ((ha2.drew.mono hbl.size).trans (b1.mono (by omega)))
            refine ⟨⟨k + 1, _, rfl, hlt, m1, m2, own_set t1 (by omega), below_set hbz (by omega), ?_⟩, by simp [intOf]; omega⟩
            exact Nat.le_trans (Nat.le_trans hs2 (Nat.le_trans ha2.drew.size b1.size)) (grown_cell w1 _ _ _).size
        · obtain rfl : k = m := by omega
          have hlt' : decide ((k : Int) < k) = false := by simp
          go_wp2
          have hr := hHr.out
          subst hr
          refine bodyPost_ret (results_cell_tmp rfl _ _ w.heap.size _ _ _ _ rfl (set_two j1) Tryz.underlying29 rfl (by kernel_rfl)) rfl ⟨_, rfl, ⟨_, _, rfl, ?_, Row.nil _ _⟩, below_set (below_set hbl (Nat.le_refl _)) (Nat.le_refl _)⟩
          have o4 := own_set (b := w.heap.size) (j := 1) (u := .slice none 0 0) (own_set (b := w.heap.size) (j := 0) (u := .slice adb k cpb) htx (by omega)) (by omega)
          exact Row.of_own o4
end Go.Proofs.YtmfbkelhegdmpaaGreatDoor
/- The walk of New, chapter 11 (disk). -/
namespace Go.Proofs.YtmfbkelhegdmpaaGreatDoor
open Go.RowKit Disk11

set_option maxHeartbeats 4000000 in
set_option maxRecDepth 100000 in
theorem New_any (n : Int) (w : World) :
    Calls Tryz.prog 38 #[.int .i64 n] w fun e w' => ∃ v', e = .returned (.tuple #[v', .int .i64 (newD n).2]) ∧ DiskIs w' (newD n).1 v' ∧ Below w.heap.size w w' := by
  obtain ⟨r, hr⟩ : ∃ r, r = newD n := ⟨_, rfl⟩
  rw [← hr]
  unfold newD at hr
  have hk := World.alloc_heap_new w (.cells #[.slice none 0 0, .slice none 0 0] 29)
  have hal := Go.Joins.below_alloc1 w (.cells #[.slice none 0 0, .slice none 0 0] 29)
  have c0 := cell2_0 hk
  have c1 := cell2_1 hk
  have f0 := frozen2 hk 0
  have f1 := frozen2 hk 1
  by_cases h1 : n < 1
  · have h1' : decide (n < 1) = true := by simpa using h1
    have hr2 : r = (none0, 2) := by rw [hr, if_pos (.inl h1)]
    clear hr h1
    subst hr2
    go_enter Tryz.func38, Tryz.ntmps38
    go_wp2
    refine bodyPost_ret (results_cell_tmp rfl _ _ w.heap.size _ _ _ _ rfl hk Tryz.underlying29 rfl (by kernel_rfl)) rfl ⟨_, rfl, DiskIs.none _, hal⟩
  · have h1' : decide (n < 1) = false := by simp; omega
    by_cases h2 : 4096 < n
    · have h2' : decide (4096 < n) = true := by simpa using h2
      have hr2 : r = (none0, 2) := by rw [hr, if_pos (.inr h2)]
      clear hr h1 h2
      subst hr2
      go_enter Tryz.func38, Tryz.ntmps38
      go_wp2
      refine bodyPost_ret (results_cell_tmp rfl _ _ w.heap.size _ _ _ _ rfl hk Tryz.underlying29 rfl (by kernel_rfl)) rfl ⟨_, rfl, DiskIs.none _, hal⟩
    · have h2' : decide (4096 < n) = false := by simp; omega
      rw [if_neg (by omega)] at hr
      obtain ⟨m, rfl⟩ : ∃ m : Nat, n = (m : Int) := ⟨n.toNat, by omega⟩
      rw [Int.toNat_natCast] at hr
      have hm1 : 1 ≤ m := by omega
      have hm2 : m ≤ 4096 := by omega
      have hHr := Lib.hid hr
      clear hr h1 h2
      have HR := Lib.hid (fun g0 W hc => repeat_any (List.replicate 64 0) m g0 W hm1 hm2 hc)
      have hA : ArrIs ((w.alloc (.cells #[.slice none 0 0, .slice none 0 0] 29)).alloc (.cells zeros64 112)) (w.heap.size + 1) 112 (List.replicate 64 0) := (alloc2 w _ _).2.1
      have hcv := arr_string _ 64 hA
      rw [show (List.replicate 64 (0 : UInt8)).length = 64 from rfl] at hcv
      have hbl := (alloc2 w (.cells #[.slice none 0 0, .slice none 0 0] 29) (.cells zeros64 112)).2.2
      have hk0 := (alloc2 w (.cells #[.slice none 0 0, .slice none 0 0] 29) (.cells zeros64 112)).1
      unfold zeros64 at hcv hbl hk0 hA
      go_enter Tryz.func38, Tryz.ntmps38
      go_wp2_with fail
      generalize ((w.alloc (.cells #[.slice none 0 0, .slice none 0 0] 29)).alloc (.cells _ 112)) = W2 at *
      have ha3 := Go.Joins.below_alloc1 W2 (.cells #[.string ⟨(List.replicate 64 (0 : UInt8)).toArray⟩] 9)
      have hx : (W2.alloc (.cells #[.string ⟨(List.replicate 64 (0 : UInt8)).toArray⟩] 9)).cell? ⟨w.heap.size + 2, 0, none⟩ = some (.string ⟨(List.replicate 64 (0 : UInt8)).toArray⟩) := by
        rw [← hbl.1]; exact cell1 (World.alloc_heap_new W2 _)
      refine (HR.out (w.heap.size + 2) _ hx).mono ?_
      rintro e w3 ⟨v3, rfl, o3, b3⟩
      obtain ⟨ad, cp, rfl⟩ := own_slice o3
      have k3 := heap_below (heap_below hk0 ha3) b3
      have r0 := cell2_0 k3
      have r1 := cell2_1 k3
      have g0 := frozen2 k3 0
      have g1 := frozen2 k3 1
      have hb3 : Below w.heap.size w w3 := hbl.2.trans ((ha3.trans (b3.mono ha3.size)).mono (by rw [hbl.1]; omega))
      have hs3 : w.heap.size + 2 ≤ (W2.alloc (.cells #[.string ⟨(List.replicate 64 (0 : UInt8)).toArray⟩] 9)).heap.size := by rw [← hbl.1]; exact ha3.size
      clear c0 c1 f0 f1
      go_wp2
      have o4 := own_set (b := w.heap.size) (j := 1) (u := .slice none 0 0) (own_set (b := w.heap.size) (j := 0) (u := .slice ad m cp) o3 (by omega)) (by omega)
      have hr := hHr.out
      subst hr
      refine bodyPost_ret (results_cell_tmp rfl _ _ w.heap.size _ _ _ _ rfl (set_two k3) Tryz.underlying29 rfl (by kernel_rfl)) rfl ⟨_, rfl, ⟨_, _, rfl, ?_, Row.nil _ _⟩, below_set (below_set hb3 (Nat.le_refl _)) (Nat.le_refl _)⟩
      show Row _ 1 _ (List.replicate m (List.replicate 64 (0 : UInt8))).length _
      rw [List.length_replicate]
      exact Row.of_own o4
end Go.Proofs.YtmfbkelhegdmpaaGreatDoor
