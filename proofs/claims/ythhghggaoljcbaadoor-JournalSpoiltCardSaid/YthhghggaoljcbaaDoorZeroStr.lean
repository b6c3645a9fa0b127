/- A slice of zeros, made and turned into a text. -/
import Derived.Test.YthhghggaoljcbaaDoorDiskH
import Derived.Test.YthhghggaoljcbaaDoorDiskL
namespace Go.Proofs.YthhghggaoljcbaaDoor
open Go.RowKit Disk11

theorem tab_zero (n : Nat) : tab n (fun _ => Value.int .u8 0) = (byteVals (List.replicate n 0)).toArray := by
  have := tab_bytes n (fun _ => 0)
  rw [List.map_const', List.length_range] at this
  exact this
theorem zero_string (n : Nat) (W : World) : (convert 66 9 (.slice (some ⟨W.heap.size, 0, none⟩) n n)).run Tryd.prog (W.alloc (.cells (tab n fun _ => .int .u8 0) 5)) = .ok (.string ⟨(List.replicate n (0 : UInt8)).toArray⟩) (W.alloc (.cells (tab n fun _ => .int .u8 0) 5)) := by
  have h := arr_string (T := 5) (l := List.replicate n 0) (b := W.heap.size) (W.alloc (.cells (tab n fun _ => .int .u8 0) 5)) n (by
    have := World.alloc_heap_new W (.cells (tab n fun _ => .int .u8 0) 5)
    unfold ArrIs; rw [this, tab_zero])
  rw [List.length_replicate] at h
  exact h
end Go.Proofs.YthhghggaoljcbaaDoor
