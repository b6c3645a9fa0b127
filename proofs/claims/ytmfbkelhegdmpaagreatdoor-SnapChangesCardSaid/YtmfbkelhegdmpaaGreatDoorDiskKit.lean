/- Comparing and copying devices, the lengths of what the functions on devices answer. -/
import Derived.Test.YtmfbkelhegdmpaaGreatDoorDiskAW
import Derived.Test.YtmfbkelhegdmpaaGreatDoorDiskIJ
import Derived.Test.YtmfbkelhegdmpaaGreatDoorDiskK
import Derived.Test.YtmfbkelhegdmpaaGreatDoorKitAll
namespace Go.Proofs.YtmfbkelhegdmpaaGreatDoor
open Go.RowKit Disk11

theorem as_read {B : Nat} {w w' : World} {e : Ending} {r : Bool} (hr : r = true) (h : e = .returned (.bool r) ∧ Below B w w') : e = .returned (.bool true) ∧ Below B w w' := by
  subst hr; exact h
theorem row_lit2 (W : World) (x y : Nat) : Row (W.alloc (.cells #[.int .i64 x, .int .i64 y] 3)) 1 (.slice (some ⟨W.heap.size, 0, none⟩) 2 2) 2 (intVals [x, y]) := by
  have k := World.alloc_heap_new W (.cells #[.int .i64 (x : Int), .int .i64 (y : Int)] 3)
  refine ⟨rfl, _, _, rfl, Nat.le_refl _, fun j v hj => ⟨_, rfl, ?_⟩⟩
  rw [addr_add]
  match j, hj with
  | 0, hj => simp [intVals] at hj; subst hj; exact cell2_0 k
  | 1, hj => simp [intVals] at hj; subst hj; exact cell2_1 k
  | j + 2, hj => simp [intVals] at hj

theorem SameDisk_same (a : Dev) (va vb : Value) (w : World) (ha : DiskIs w a va) (hb : DiskIs w a vb) (hla : a.1.length < 4398046511104) (hlc : a.2.length < 4398046511104) :
    Calls Tryz.prog 15 #[va, vb] w fun e w' => e = .returned (.bool true) ∧ Below w.heap.size w w' :=
  (SameDisk_any a a va vb w ha hb hla hlc).mono fun _ _ => as_read (by simp)
theorem OwnDisk_is (d : Dev) (v : Value) (w : World) (h : DiskIs w d v) (hl : d.1.length ≤ 4096) (hl2 : d.2.length ≤ 4096) :
    Calls Tryz.prog 17 #[v] w fun e w' => ∃ ab cb ac cc, e = .returned (.agg #[.slice ab d.1.length cb, .slice ac d.2.length cc]) ∧ DiskIs w' d (.agg #[.slice ab d.1.length cb, .slice ac d.2.length cc]) ∧ Below w.heap.size w w' :=
  (OwnDisk_any d v w h hl hl2).mono fun e w' ⟨vb, vc, he, o1, o2, hb⟩ => by
    have hd : DiskIs w' d (.agg #[vb, vc]) := ⟨_, _, rfl, Row.of_own o1, Row.of_own o2⟩
    obtain ⟨ab, cb, ac, cc, e2, _⟩ := hd.form
    exact ⟨ab, cb, ac, cc, by rw [he, e2], e2 ▸ hd, hb⟩
theorem newD_len (n : Int) : (newD n).1.1.length ≤ 4096 ∧ (newD n).1.2.length ≤ 4096 := by
  unfold newD
  split
  · simp [none0]
  · simp; omega
theorem writeD_len (d : Dev) (p : Int) (x : List UInt8) : (writeD d p x).1.1.length ≤ d.1.length ∧ (writeD d p x).1.2.length ≤ d.2.length + 1 := by
  unfold writeD
  split
  · simp [none0]
  · split
    · simp [none0]
    · split
      · simp [none0]
      · simp
theorem syncD_len (d : Dev) : (syncD d).1.1.length ≤ d.1.length ∧ (syncD d).1.2.length = 0 := by
  unfold syncD
  split
  · simp [none0]
  · rename_i h
    have hg : Disk11.Good d := (chk_good d).1 (chk_ok (by simpa using h))
    refine ⟨?_, rfl⟩
    show (chunk (readAll d)).length ≤ _
    rw [chunk_length, readAll_length hg]; omega
theorem crashB_len {d : Dev} (hg : Disk11.Good d) (k t : Nat) (hk : k ≤ d.2.length) : (layF (readK d k) (nextD d k).1.toNat ((nextD d k).2.take t)).length = 64 * d.1.length := by
  rw [layF_length, readK_length hg]
  rw [readK_length hg]
  unfold nextD
  by_cases h : k < d.2.length
  · rw [List.getElem?_eq_getElem h, Option.getD_some]
    have := hg.2.2.2.2 _ (List.getElem_mem h)
    have h2 := List.length_take_le t d.2[k].2
    have h3 : (d.2[k].2.take t).length ≤ d.2[k].2.length := List.length_take_le' ..
    obtain ⟨_, a, b⟩ := this
    unfold Disk11.size at b
    omega
  · rw [List.getElem?_eq_none (by omega)]
    simp
theorem crashD_len (d : Dev) (keep torn : Int) : (crashD d keep torn).1.1.length ≤ d.1.length ∧ (crashD d keep torn).1.2.length = 0 := by
  unfold crashD
  split
  · simp [none0]
  · rename_i h
    have hg : Disk11.Good d := (chk_good d).1 (chk_ok (by simpa using h))
    split
    · simp [none0]
    · rename_i h2
      split
      · simp [none0]
      · refine ⟨?_, rfl⟩
        show (chunk _).length ≤ _
        rw [chunk_length, crashB_len hg _ _ (by omega)]; omega
theorem SameTexts_same (a : List (List UInt8)) (va vb : Value) (w : World) (ha : Row w 1 va a.length (strVals a)) (hb : Row w 1 vb a.length (strVals a)) (hla : a.length < 4398046511104) :
    Calls Tryz.prog 20 #[va, vb] w fun e w' => e = .returned (.bool true) ∧ Below w.heap.size w w' :=
  (SameTexts_any a a va vb w ha hb hla).mono fun _ _ => as_read (by simp)
end Go.Proofs.YtmfbkelhegdmpaaGreatDoor
