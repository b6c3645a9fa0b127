/- The walk of the reference's New, chapter 11 (disk). -/
import Derived.Test.YthhghggaoljcbaaDoorDiskTa
namespace Go.Proofs.YthhghggaoljcbaaDoor
open Go.RowKit Disk11

def zstr : ByteArray := ⟨#[0, 0, 0, 0, 0, 0, 0, 0, 0, 0, 0, 0, 0, 0, 0, 0, 0, 0, 0, 0, 0, 0, 0, 0, 0, 0, 0, 0, 0, 0, 0, 0, 0, 0, 0, 0, 0, 0, 0, 0, 0, 0, 0, 0, 0, 0, 0, 0, 0, 0, 0, 0, 0, 0, 0, 0, 0, 0, 0, 0, 0, 0, 0, 0]⟩
def zeros64 : Array Value := #[.int .u8 0, .int .u8 0, .int .u8 0, .int .u8 0, .int .u8 0, .int .u8 0, .int .u8 0, .int .u8 0, .int .u8 0, .int .u8 0, .int .u8 0, .int .u8 0, .int .u8 0, .int .u8 0, .int .u8 0, .int .u8 0, .int .u8 0, .int .u8 0, .int .u8 0, .int .u8 0, .int .u8 0, .int .u8 0, .int .u8 0, .int .u8 0, .int .u8 0, .int .u8 0, .int .u8 0, .int .u8 0, .int .u8 0, .int .u8 0, .int .u8 0, .int .u8 0, .int .u8 0, .int .u8 0, .int .u8 0, .int .u8 0, .int .u8 0, .int .u8 0, .int .u8 0, .int .u8 0, .int .u8 0, .int .u8 0, .int .u8 0, .int .u8 0, .int .u8 0, .int .u8 0, .int .u8 0, .int .u8 0, .int .u8 0, .int .u8 0, .int .u8 0, .int .u8 0, .int .u8 0, .int .u8 0, .int .u8 0, .int .u8 0, .int .u8 0, .int .u8 0, .int .u8 0, .int .u8 0, .int .u8 0, .int .u8 0, .int .u8 0, .int .u8 0]
theorem make64 (w : World) : (Instr.makeSlice 66 (.int .i64 64) (.int .i64 64)).run Tryd.prog w.drew = .ok (.slice (some ⟨w.heap.size, 0, none⟩) 64 64) (w.alloc (.cells zeros64 5)).drew := by
  obtain ⟨i0, hi, hz0, hz1, hz2⟩ := info_parts infoU8
  have h := run_make (P := Tryd.prog) w.drew 66 5 i0 (.int .u8 0) Tryd.underlying66 hi hz0 .i64 .i64 64 64 (by decide) (by decide) (by rw [hz2]; decide) (by decide)
  rw [hz1] at h
  rw [h]
  have e : madeCells (Value.int .u8 0).cells ((64 : Int).toNat * 1) = zeros64 := by unfold madeCells zeros64; kernel_rfl
  rw [e]; rfl
set_option maxHeartbeats 4000000 in
set_option maxRecDepth 100000 in
theorem RNew_any (n : Int) (w : World) :
    Calls Tryd.prog 62 #[.int .i64 n] w fun e w' => ∃ v', e = .returned (.tuple #[v', .int .i64 (newD n).2]) ∧ DiskIs w' (newD n).1 v' ∧ Below w.heap.size w w' := by
  obtain ⟨r, hr⟩ : ∃ r, r = newD n := ⟨_, rfl⟩
  rw [← hr]
  unfold newD at hr
  have hk := World.alloc_heap_new w (.cells #[.slice none 0 0, .slice none 0 0] 25)
  have hal := Go.Joins.below_alloc1 w (.cells #[.slice none 0 0, .slice none 0 0] 25)
  have c0 := cell2_0 hk
  have c1 := cell2_1 hk
  have f0 := frozen2 hk 0
  have f1 := frozen2 hk 1
  by_cases h1 : n < 1
  · have h1' : decide (n < 1) = true := by simpa using h1
    have hr2 : r = (none0, 2) := by rw [hr, if_pos (.inl h1)]
    clear hr h1
    subst hr2
    go_enter Tryd.func62, Tryd.ntmps62
    go_wp2
    refine bodyPost_ret (results_cell_tmp rfl _ _ w.heap.size _ _ _ _ rfl hk Tryd.underlying25 rfl (by kernel_rfl)) rfl ⟨_, rfl, DiskIs.none _, hal⟩
  · have h1' : decide (n < 1) = false := by simp; omega
    by_cases h2 : 4096 < n
    · have h2' : decide (4096 < n) = true := by simpa using h2
      have hr2 : r = (none0, 2) := by rw [hr, if_pos (.inr h2)]
      clear hr h1 h2
      subst hr2
      go_enter Tryd.func62, Tryd.ntmps62
      go_wp2
      refine bodyPost_ret (results_cell_tmp rfl _ _ w.heap.size _ _ _ _ rfl hk Tryd.underlying25 rfl (by kernel_rfl)) rfl ⟨_, rfl, DiskIs.none _, hal⟩
    · have h2' : decide (4096 < n) = false := by simp; omega
      rw [if_neg (by omega)] at hr
      obtain ⟨m, rfl⟩ : ∃ m : Nat, n = (m : Int) := ⟨n.toNat, by omega⟩
      rw [Int.toNat_natCast] at hr
      have hm2 : m ≤ 4096 := by omega
      have hHr := Lib.hid hr
      clear hr h1 h2
      go_enter Tryd.func62, Tryd.ntmps62
      go_wp2
      obtain ⟨k1, k2, hsz, hbl0⟩ := alloc2 w (.cells #[.slice none 0 0, .slice none 0 0] 25) (.cells #[.slice none 0 0, .slice none 0 0] 25)
      generalize ((w.alloc (.cells #[.slice none 0 0, .slice none 0 0] 25)).alloc (.cells #[.slice none 0 0, .slice none 0 0] 25)) = W0 at *
      clear c0 c1 f0 f1
      go_loopw [5] (fun i wr => ∃ (k : Nat) (vb : Value), i = .int .i64 k ∧ k ≤ m ∧ wr.heap[w.heap.size]? = some (.cells #[.slice none 0 0, .slice none 0 0] 25 (0, 0)) ∧ wr.heap[w.heap.size + 1]? = some (.cells #[vb, .slice none 0 0] 25 (0, 0)) ∧ Txt wr (w.heap.size + 2) vb (List.replicate k (List.replicate 64 0)) ∧ Below w.heap.size w wr ∧ w.heap.size + 2 ≤ wr.heap.size) (fun i _ => m - (intOf i).toNat)
      case atStart => exact ⟨0, _, rfl, Nat.zero_le _, k1, k2, Txt.nil _ _, hbl0, by omega⟩
      case round =>
        obtain ⟨k, vb, rfl, hk, j1, j2, htx, hbl, hs2⟩ := hrel
        obtain ⟨adb, cpb, rfl⟩ := htx.slice
        rw [List.length_replicate] at j2 htx
        have c0 := cell2_0 j2
        have c1 := cell2_1 j2
        have f0 := frozen2 j2 0
        have g0 := cell2_0 j1
        have g1 := cell2_1 j1
        have h0 := frozen2 j1 0
        have h1 := frozen2 j1 1
        by_cases hlt : k < m
        · have hlt' : decide ((k : Int) < m) = true := by simp; omega
          have hA : ArrIs (wr.alloc (.cells zeros64 5)) wr.heap.size 5 (List.replicate 64 0) := World.alloc_heap_new wr _
          have hcv := arr_string _ 64 hA
          rw [show (List.replicate 64 (0 : UInt8)).length = 64 from rfl] at hcv
          have hcv2 : (convert 66 9 (.slice (some ⟨wr.heap.size, 0, none⟩) 64 64)).run Tryd.prog (wr.alloc (.cells zeros64 5)).drew = .ok (.string zstr) (wr.alloc (.cells zeros64 5)).drew := by
            have := arr_string (wr.alloc (.cells zeros64 5)).drew 64 (show ArrIs _ wr.heap.size 5 (List.replicate 64 0) from hA)
            rw [show (List.replicate 64 (0 : UInt8)).length = 64 from rfl] at this
            exact this
          have ha1 := Go.Joins.below_alloc1 wr (.cells zeros64 5)
          have ha2 := Go.Joins.below_alloc2 wr (.cells zeros64 5) (.cells #[.string zstr] 9)
          have d0 := cell2_0 (heap_below j2 ha1)
          have d1 := cell2_0 (heap_below j2 ha2)
          have hta := (htx.alloc (.cells zeros64 5)).alloc (.cells #[.string zstr] 9)
          have hnew := (alloc2 wr (.cells zeros64 5) (.cells #[.string zstr] 9)).2.1
          have hmk := make64 wr
          have hnew' := cell1 hnew
          simp only [zeros64, zstr] at hcv2 ha2 d1 hta hnew' hmk hcv ha1 d0
          clear hA
          go_wp2
          go_region_law (refine step_app_str (n := List.replicate 64 0) rfl rfl (w.heap.size + 2) rfl hta.drew (by simp [go_sem]) hnew' (by simp; omega) (by simp; omega) ?_; intro g cap w1 t1 b1 hgb; have j2'' := (b1.block (w.heap.size + 1) (by omega)).trans (heap_below j2 ha2.drew); have d0 := cell2_0 j2''; have d1 := frozen2 j2'' 0)
          all_goals go_wp2
          all_goals
            have m1 := one_other (b := w.heap.size + 1) (j := 0) (u := .slice (some ⟨g, 0, none⟩) (k + 1) cap) (by omega) ((b1.block (w.heap.size) (by omega)).trans (heap_below j1 ha2.drew))
            have m2 := Lib.heap_setCell_same (i := 0) j2'' (.slice (some ⟨g, 0, none⟩) (k + 1) cap)
            rw [List.length_replicate, show List.replicate k (List.replicate 64 (0 : UInt8)) ++ [List.replicate 64 0] = List.replicate (k + 1) (List.replicate 64 0) from (List.replicate_succ' ..).symm] at t1
            have hbz : Below w.heap.size w w1 := hbl.trans ((ha2.drew.mono hbl.size).trans (b1.mono (by omega)))
            refine ⟨⟨k + 1, _, rfl, hlt, m1, m2, own_set t1 (by omega), below_set hbz (by omega), ?_⟩, by simp [intOf]; omega⟩
            exact Nat.le_trans (Nat.le_trans hs2 (Nat.le_trans ha2.drew.size b1.size)) (grown_cell w1 _ _ _).size
        · obtain rfl : k = m := by omega
          have hlt' : decide ((k : Int) < k) = false := by simp
          go_wp2
          have hr := hHr.out
          subst hr
          refine bodyPost_ret (results_cell_tmp rfl _ _ w.heap.size _ _ _ _ rfl (set_two j1) Tryd.underlying25 rfl (by kernel_rfl)) rfl ⟨_, rfl, ⟨_, _, rfl, ?_, Row.nil _ _⟩, below_set (below_set hbl (Nat.le_refl _)) (Nat.le_refl _)⟩
          have o4 := own_set (b := w.heap.size) (j := 1) (u := .slice none 0 0) (own_set (b := w.heap.size) (j := 0) (u := .slice adb k cpb) htx (by omega)) (by omega)
          exact Row.of_own o4
end Go.Proofs.YthhghggaoljcbaaDoor
