/- Chapter 3: the walk of awake. -/
import Derived.Test.YtbcofimmfbmkoaaDoorWlawD
namespace Go.Proofs.YtbcofimmfbmkoaaDoor
open Go.RowKit Go.Shelf Words3

def awT : List UInt8 := [110, 111, 100, 101, 32, 51, 32, 113, 117, 111, 116, 97, 61, 57, 48, 48, 32, 35, 32, 98, 105, 103, 10, 115, 101, 110, 100, 32, 100, 97, 116, 97, 61, 34, 97, 32, 98, 92, 120, 48, 48, 34]
def awA : List Wd := [⟨0, [], [110, 111, 100, 101]⟩, ⟨5, [], [51]⟩, ⟨7, [113, 117, 111, 116, 97], [57, 48, 48]⟩]
def awB : List Wd := [⟨23, [], [115, 101, 110, 100]⟩, ⟨28, [100, 97, 116, 97], [97, 32, 98, 0]⟩]
def awR : List Rw := [⟨0, awA⟩, ⟨23, awB⟩]
theorem aw_rows : rowsF awT = ⟨awR, 0, 0⟩ := by kernel_rfl
theorem aw_q1 : quoteF [97, 32, 98] = [34, 97, 32, 98, 34] := by kernel_rfl
theorem aw_q2 : quoteF [97, 35] = [97, 35] := by kernel_rfl
theorem aw_u : unquoteF [34, 92, 120, 48, 97, 34] = ⟨[10], 0⟩ := by kernel_rfl

set_option maxHeartbeats 10000000 in
set_option maxRecDepth 100000 in
theorem awake_any (W : World) : Calls Tryd.prog 11 #[] W fun e w' => e = .returned (.bool true) ∧ Below W.heap.size W w' := by
  have HR := Lib.hid (Rows_any ⟨awT.toArray⟩ W)
  rw [show (⟨awT.toArray⟩ : ByteArray).data.toList = awT from rfl, aw_rows] at HR
  have HU := Lib.hid (fun W => by
    have h := Unquote_any ⟨#[34, 92, 120, 48, 97, 34]⟩ (by decide) W
    rw [show (⟨#[34, 92, 120, 48, 97, 34]⟩ : ByteArray).data.toList = [34, 92, 120, 48, 97, 34] from rfl, aw_u] at h
    exact h)
  have HQ1 := Lib.hid (fun W => by
    have h := Quote_any ⟨#[97, 32, 98]⟩ (by decide) W
    rw [show (⟨#[97, 32, 98]⟩ : ByteArray).data.toList = [97, 32, 98] from rfl, aw_q1] at h
    exact h)
  have HQ2 := Lib.hid (fun W => by
    have h := Quote_any ⟨#[97, 35]⟩ (by decide) W
    rw [show (⟨#[97, 35]⟩ : ByteArray).data.toList = [97, 35] from rfl, aw_q2] at h
    exact h)
  have HW := Lib.hid (fun n v W hv => row_any n v W hv)
  have E := eq_fault 0 0 0 0
  rw [show (((0 : Int) == 0) && ((0 : Int) == 0)) = true from rfl] at E
  have HE := Lib.hid E
  clear E
  unfold awT at HR
  go_enter Tryd.func11, Tryd.ntmps11
  go_wp2_with fail
  refine HR.out.mono ?_
  rintro e w1 ⟨v, rfl, hrs, hb⟩
  obtain ⟨ad, c, rfl⟩ := hrs.slice
  have R1 := hrs.at_
  obtain ⟨k1, k2, s2, a2⟩ := alloc2 w1 (.cells #[.int .i64 0, .int .i64 0] 26) (.cells (wcells awA).toArray 46)
  have R2 := R1.below a2
  have t2 := hb.trans (a2.mono hb.size)
  have W2 := words_lit awA k2 rfl
  have K2 := Lib.hid (And.intro k1 (And.intro R2 (And.intro t2 W2)))
  clear k1 k2 s2 a2 R1 R2 t2 W2 hb hrs
  go_wp2_with fail
  refine (HW.out _ _ _ ⟨_, _, _, rfl⟩).mono ?_
  rintro e w2 ⟨rfl, b2⟩
  have k3 := World.alloc_heap_new w2 (.cells (wcells awB).toArray 46)
  have a3 := b2.trans ((Go.Joins.below_alloc1 w2 (.cells (wcells awB).toArray 46)).mono b2.size)
  have W3 := words_lit awB k3 rfl
  have K3 := Lib.hid (And.intro (heap_below K2.out.1 a3) (And.intro (K2.out.2.1.below a3) (And.intro (K2.out.2.2.1.trans (a3.mono K2.out.2.2.1.size)) (And.intro (K2.out.2.2.2.below a3) W3))))
  clear k3 a3 W3 b2 K2
  go_wp2_with fail
  refine (HW.out _ _ _ ⟨_, _, _, rfl⟩).mono ?_
  rintro e w3 ⟨rfl, b3⟩
  have k4 := World.alloc_heap_new w3 (.cells (rcells [.slice (some ⟨w1.heap.size + 1, 0, none⟩) 3 3, .slice (some ⟨w2.heap.size, 0, none⟩) 2 2] awR).toArray 39)
  have a4 := b3.trans ((Go.Joins.below_alloc1 w3 (.cells (rcells [.slice (some ⟨w1.heap.size + 1, 0, none⟩) 3 3, .slice (some ⟨w2.heap.size, 0, none⟩) 2 2] awR).toArray 39)).mono b3.size)
  have q1 := K3.out.2.2.2.1.below a4
  have q2 := K3.out.2.2.2.2.below a4
  have R4 := rows_lit [.slice (some ⟨w1.heap.size + 1, 0, none⟩) 3 3, .slice (some ⟨w2.heap.size, 0, none⟩) 2 2] awR k4 rfl rfl (by
    intro p hp
    simp only [awR, List.zip_cons_cons, List.zip_nil_right, List.mem_cons, List.not_mem_nil, or_false] at hp
    rcases hp with rfl | rfl
    · exact q1
    · exact q2)
  have K4 := Lib.hid (And.intro (heap_below K3.out.1 a4) (And.intro (K3.out.2.1.below a4) (And.intro (K3.out.2.2.1.trans (a4.mono K3.out.2.2.1.size)) R4)))
  clear k4 a4 q1 q2 R4 b3 K3
  go_wp2_with fail
  refine (HU.out _).mono ?_
  rintro e w5 ⟨rfl, b5⟩
  have K5 := Lib.hid (And.intro (heap_below K4.out.1 b5) (And.intro (K4.out.2.1.below b5) (And.intro (K4.out.2.2.1.trans (b5.mono K4.out.2.2.1.size)) (K4.out.2.2.2.below b5))))
  clear b5 K4
  have c0 := cell2_0 K5.out.1
  have c1 := cell2_1 K5.out.1
  have E := HE.out
  go_wp2_with fail
  refine (same_true _ _ _ awR awR true K5.out.2.1 K5.out.2.2.2 (Agree.refl _ _) (by decide) (by decide)).mono ?_
  rintro e w6 ⟨rfl, b6⟩
  have t6 := K5.out.2.2.1.trans (b6.mono K5.out.2.2.1.size)
  clear b6 K5 c0 c1 E
  go_wp2_with fail
  refine (HQ1.out _).mono ?_
  rintro e w7 ⟨rfl, b7⟩
  have t7 := t6.trans (b7.mono t6.size)
  go_wp2_with fail
  refine (HQ2.out _).mono ?_
  rintro e w8 ⟨rfl, b8⟩
  have t8 := t7.trans (b8.mono t7.size)
  go_wp2_with fail
  go_ret
  exact ⟨rfl, t8⟩
end Go.Proofs.YtbcofimmfbmkoaaDoor
