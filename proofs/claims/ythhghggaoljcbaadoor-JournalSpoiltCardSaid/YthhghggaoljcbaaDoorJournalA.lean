/- The walk of the form of a record of chapter 12 (journal), the program's. -/
import Derived.Test.YthhghggaoljcbaaDoorJPlain
import Derived.Test.YthhghggaoljcbaaDoorSumC
import Derived.Test.YthhghggaoljcbaaDoorDiskL
import Derived.OwnWalk
namespace Go.Proofs.YthhghggaoljcbaaDoor
open Go.RowKit Disk11 Journal12 Sum2

theorem bytes_app (a b : List UInt8) : (⟨a.toArray⟩ : ByteArray) ++ ⟨b.toArray⟩ = ⟨(a ++ b).toArray⟩ := by
  apply ByteArray.ext
  rw [ByteArray.data_append, List.append_toArray]
def headJ (n c : Nat) : List UInt8 := [183, UInt8.ofNat (n / 256), UInt8.ofNat n, 255 - UInt8.ofNat (n / 256), 255 - UInt8.ofNat n, UInt8.ofNat (c / 16777216), UInt8.ofNat (c / 65536), UInt8.ofNat (c / 256), UInt8.ofNat c]
theorem formJ_head (x : List UInt8) : formJ x = headJ x.length (crc32 x) ++ x ++ [183] := by unfold formJ headJ text32; simp
def headCells (n c : Nat) : Array Value := #[.int .u8 183, .int .u8 ((n : Int) / 256), .int .u8 ((n : Int) % 256), .int .u8 (255 - (n : Int) / 256), .int .u8 (255 - (n : Int) % 256), .int .u8 ((c : Int) / 16777216), .int .u8 ((c : Int) / 65536 % 256), .int .u8 ((c : Int) / 256 % 256), .int .u8 ((c : Int) % 256)]
theorem u8_of (n : Nat) : ((UInt8.ofNat n).toNat : Int) = (n : Int) % 256 := by rw [UInt8.toNat_ofNat']; omega
theorem u8_sub (n : Nat) : ((255 - UInt8.ofNat n).toNat : Int) = 255 - (n : Int) % 256 := by
  have h := u8_of n
  have h2 := (UInt8.ofNat n).toNat_lt
  rw [UInt8.toNat_sub]
  have h3 : (255 : UInt8).toNat = 255 := rfl
  rw [h3]
  omega
theorem head_cells (n c : Nat) (hn : n < 65536) (hc : c < 4294967296) : headCells n c = (byteVals (headJ n c)).toArray := by
  unfold headCells headJ byteVals
  simp only [List.map_cons, List.map_nil, u8_of, u8_sub]
  have e1 : ((n / 256 : Nat) : Int) % 256 = (n : Int) / 256 := by omega
  have e2 : ((c / 16777216 : Nat) : Int) % 256 = (c : Int) / 16777216 := by omega
  have e3 : ((c / 65536 : Nat) : Int) % 256 = (c : Int) / 65536 % 256 := by omega
  have e4 : ((c / 256 : Nat) : Int) % 256 = (c : Int) / 256 % 256 := by omega
  rw [e1, e2, e3, e4]
  rfl
theorem head_string {W : World} {n c : Nat} (hn : n < 65536) (hc : c < 4294967296) {b T : Nat} (h : W.heap[b]? = some (.cells (headCells n c) T (0, 0))) :
    (convert 66 9 (.slice (some ⟨b, 0, none⟩) 9 9)).run Tryd.prog W = .ok (.string ⟨(headJ n c).toArray⟩) W := by
  rw [head_cells n c hn hc] at h
  exact arr_string (l := headJ n c) W 9 h

set_option maxHeartbeats 4000000 in
set_option maxRecDepth 100000 in
theorem form_any (x : List UInt8) (hx : x.length ≤ 60000) (w : World) (ht : Tab w) :
    Calls Tryd.prog 50 #[.string ⟨x.toArray⟩] w fun e w' => e = .returned (.string ⟨(formJ x).toArray⟩) ∧ Below w.heap.size w w' := by
  have HC := Lib.hid (fun W h => crc32_any ⟨x.toArray⟩ (by show x.length ≤ _; omega) W h)
  obtain ⟨c, hc⟩ : ∃ c : Nat, c = crc32 x := ⟨_, rfl⟩
  have hc32 : c < 4294967296 := by rw [hc]; exact crc32_lt x
  have hF := Lib.hid (formJ_head x)
  rw [← hc] at HC hF
  obtain ⟨C, hC⟩ : ∃ C, C = headCells x.length c := ⟨_, rfl⟩
  have hk : ((w.alloc (.cells C 108)).alloc (.cells C 5)).heap[w.heap.size]? = some (.cells C 108 (0, 0)) := by
    rw [Below.heap_alloc _ _ _ (by simp)]; exact World.alloc_heap_new w _
  have hcv := head_string (n := x.length) (c := c) (by omega) hc32 (by rw [← hC]; exact hk)
  have hb : Below w.heap.size w ((w.alloc (.cells C 108)).alloc (.cells C 5)) := Go.Joins.below_alloc2 w _ _
  have hcv2 := one_string 183 (by omega) ((w.alloc (.cells C 108)).alloc (.cells C 5))
  rw [World.size_alloc, World.size_alloc, show ((183 : Nat) : Int) = 183 from rfl] at hcv2
  have hB := Lib.hid hb
  obtain ⟨H, hH⟩ : ∃ H, H = headJ x.length c := ⟨_, rfl⟩
  have hHl : H.length ≤ 9 := by rw [hH]; exact Nat.le_refl _
  rw [← hH] at hcv hF
  rw [hC] at hcv hcv2 hB
  unfold headCells at hcv hcv2 hB
  have HT := Lib.hid ht
  clear ht hc hk hb hC hH
  go_enter Tryd.func50, Tryd.ntmps50
  go_wp2_with fail
  refine (HC.out _ HT.out).mono ?_
  rintro e w1 ⟨rfl, rfl⟩
  go_wp2_with fail
  go_ret
  refine ⟨?_, hB.out.alloc (by simp only [World.size_alloc]; omega) _⟩
  rw [hF.out]
  show Ending.returned (.string ((⟨H.toArray⟩ : ByteArray) ++ ⟨x.toArray⟩ ++ ⟨[(183 : UInt8)].toArray⟩)) = _
  rw [bytes_app, bytes_app]
end Go.Proofs.YthhghggaoljcbaaDoor
