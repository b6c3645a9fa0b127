/- The walks of the reference's form and record, chapter 12 (journal). -/
import Derived.Test.YthhghggaoljcbaaDoorJournalF
namespace Go.Proofs.YthhghggaoljcbaaDoor
open Go.RowKit Disk11 Journal12 Sum2

set_option maxHeartbeats 4000000 in
set_option maxRecDepth 100000 in
theorem Rform_any (x : List UInt8) (hx : x.length ≤ 60000) (w : World) :
    Calls Tryd.prog 56 #[.string ⟨x.toArray⟩] w fun e w' => e = .returned (.string ⟨(formJ x).toArray⟩) ∧ Below w.heap.size w w' := by
  have HC := Lib.hid (fun W => rcrc32_any ⟨x.toArray⟩ (by show x.length ≤ _; omega) W)
  obtain ⟨c, hc⟩ : ∃ c : Nat, c = crc32 x := ⟨_, rfl⟩
  have hc32 : c < 4294967296 := by rw [hc]; exact crc32_lt x
  have hF := Lib.hid (formJ_head x)
  rw [← hc] at HC hF
  obtain ⟨C, hC⟩ : ∃ C, C = headCells x.length c := ⟨_, rfl⟩
  have hk : (w.alloc (.cells C 5)).heap[w.heap.size]? = some (.cells C 5 (0, 0)) := World.alloc_heap_new w _
  have hcv := head_string (n := x.length) (c := c) (by omega) hc32 (by rw [← hC]; exact hk)
  have hb : Below w.heap.size w (w.alloc (.cells C 5)) := Go.Joins.below_alloc1 w _
  have hcv2 := one_string 183 (by omega) (w.alloc (.cells C 5))
  rw [World.size_alloc, show ((183 : Nat) : Int) = 183 from rfl] at hcv2
  have hB := Lib.hid hb
  obtain ⟨H, hH⟩ : ∃ H, H = headJ x.length c := ⟨_, rfl⟩
  have hHl : H.length ≤ 9 := by rw [hH]; exact Nat.le_refl _
  rw [← hH] at hcv hF
  rw [hC] at hcv hcv2 hB
  unfold headCells at hcv hcv2 hB
  clear hc hk hb hC hH
  go_enter Tryd.func56, Tryd.ntmps56
  go_wp2_with fail
  refine (HC.out _).mono ?_
  rintro e w1 ⟨rfl, rfl⟩
  go_wp2_with fail
  go_ret
  refine ⟨?_, hB.out.alloc (by simp only [World.size_alloc]; omega) _⟩
  rw [hF.out]
  show Ending.returned (.string ((⟨H.toArray⟩ : ByteArray) ++ ⟨x.toArray⟩ ++ ⟨[(183 : UInt8)].toArray⟩)) = _
  rw [bytes_app, bytes_app]
end Go.Proofs.YthhghggaoljcbaaDoor
