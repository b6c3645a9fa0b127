/- Small laws: parts of a row of texts; bytes of a block that are set. -/
import Derived.Test.YtbcofimmfbmkoaaDoorKitR
import Derived.Laws.IdiomStrings
import Derived.DataElems
namespace Go.Proofs.YtbcofimmfbmkoaaDoor
open Go.RowKit

theorem sliced_row {w : World} {ad : Option Addr} {n c : Nat} {xs : List Value} (h : Row w 1 (.slice ad n c) n xs) (i j m : Nat) (hij : i ≤ j) (hj : j ≤ n) (hm : m = c) : Row w 1 (sliced ad i j m 1) (j - i) ((xs.drop i).take (j - i)) := by
  subst hm
  obtain ⟨h1, ad', c', h2, h3, h4⟩ := h
  cases h2
  refine ⟨by rw [List.length_take, List.length_drop]; omega, _, _, rfl, by omega, fun k x hk => ?_⟩
  have hkl : k < j - i := by
    rcases Nat.lt_or_ge k (j - i) with h | h
    · exact h
    · rw [List.getElem?_eq_none (by rw [List.length_take]; omega)] at hk; cases hk
  rw [List.getElem?_take_of_lt hkl, List.getElem?_drop] at hk
  obtain ⟨a, rfl, hc⟩ := h4 _ _ hk
  refine ⟨a.add (i * 1), ?_, by rw [Addr.add_add, Nat.mul_one]; exact hc⟩
  rw [if_neg (by omega)]; rfl
theorem strVals_drop (l : List (List UInt8)) (i : Nat) : (strVals l).drop i = strVals (l.drop i) := by unfold strVals; exact List.map_drop.symm
theorem strVals_take (l : List (List UInt8)) (i : Nat) : (strVals l).take i = strVals (l.take i) := by unfold strVals; exact List.map_take.symm
theorem size_strs (W : World) : (Go.sizeOf (Tryd.prog.elem 55)).run Tryd.prog W = .ok 1 W := by
  rw [show Tryd.prog.elem 55 = 9 by kernel_rfl]
  exact Tryd.sizeOf9 W
/-- The texts from the i-th on. -/
theorem part_from {w : World} {ad : Option Addr} {c : Nat} {l : List (List UInt8)} (h : Row w 1 (.slice ad l.length c) l.length (strVals l)) (i : Nat) (hi : i ≤ l.length) :
    ∃ ad' c', (∀ W, (Instr.slice 55 (.slice ad l.length c) (some (.int .i64 (i : Int))) none none).run Tryd.prog W = .ok (.slice ad' (l.length - i) c') W) ∧ Row w 1 (.slice ad' (l.length - i) c') (l.drop i).length (strVals (l.drop i)) := by
  have hr := sliced_row h i l.length c hi (Nat.le_refl _) rfl
  rw [strVals_drop, List.take_of_length_le (by rw [strVals_length, List.length_drop]; omega)] at hr
  refine ⟨_, _, fun W => ?_, by rw [List.length_drop]; exact hr⟩
  rw [run_slice_l (P := Tryd.prog) W 55 ad l.length c (by kernel_rfl) .i64 (i : Int) (by omega) (by omega), size_strs]
  simp only [Result.andThen, sliced, Int.toNat_natCast]
/-- The first i texts. -/
theorem part_to {w : World} {ad : Option Addr} {c : Nat} {l : List (List UInt8)} (h : Row w 1 (.slice ad l.length c) l.length (strVals l)) (i : Nat) (hi : i ≤ l.length) :
    ∃ ad' c', (∀ W, (Instr.slice 55 (.slice ad l.length c) none (some (.int .i64 (i : Int))) none).run Tryd.prog W = .ok (.slice ad' i c') W) ∧ Row w 1 (.slice ad' i c') (l.take i).length (strVals (l.take i)) := by
  have hr := sliced_row h 0 i c (Nat.zero_le _) hi rfl
  rw [List.drop_zero, strVals_take, Nat.sub_zero] at hr
  have hc : l.length ≤ c := by obtain ⟨_, _, _, h2, h3, _⟩ := h; cases h2; exact h3
  refine ⟨_, _, fun W => ?_, by rw [List.length_take, Nat.min_eq_left hi]; unfold sliced at hr; rw [Nat.sub_zero] at hr; exact hr⟩
  rw [run_slice_h (P := Tryd.prog) W 55 ad l.length c (by kernel_rfl) .i64 (i : Int) (by omega) (by omega), size_strs]
  simp only [Result.andThen, sliced, Int.toNat_natCast, Nat.sub_zero]

/-- The first bytes of block g are l, and may be written. -/
def RowB (w : World) (g : Nat) (l : List UInt8) : Prop := ∀ j, (hj : j < l.length) → w.cell? ⟨g, j, none⟩ = some (.int .u8 (l[j].toNat : Int)) ∧ w.frozen? ⟨g, j, none⟩ = false
theorem RowB.bytes (w : World) (s : ByteArray) (cap : Nat) (ty : TypeId) (lo hi : Nat) (hlo : s.size ≤ lo) : RowB (w.alloc (.cells (bytesRow s cap) ty (lo, hi))) w.heap.size s.data.toList := by
  intro j hj
  have hj' : j < s.data.size := by simpa using hj
  rw [World.cell?_alloc_mark, World.frozen?_alloc_mark, bytesRow_at s cap j hj']
  refine ⟨by simp, ?_⟩
  have : ¬ lo ≤ j := by have : s.size = s.data.size := rfl; omega
  simp [this]
theorem RowB.drew {w : World} {g : Nat} {l : List UInt8} (h : RowB w g l) : RowB w.drew g l := h
theorem RowB.below {w w' : World} {g : Nat} {l : List UInt8} (h : RowB w g l) (hg : g < w.heap.size) (hb : Below w.heap.size w w') : RowB w' g l := by
  intro j hj
  obtain ⟨h1, h2⟩ := h j hj
  have e := hb.block g hg
  refine ⟨cell_below hb h1, ?_⟩
  unfold World.frozen? at h2 ⊢
  rw [e]; exact h2
theorem RowB.set {w : World} {g : Nat} {l : List UInt8} (h : RowB w g l) (i : Nat) (v : UInt8) : RowB (w.setCell ⟨g, i, none⟩ (.int .u8 (v.toNat : Int))) g (l.set i v) := by
  intro j hj
  rw [List.length_set] at hj
  obtain ⟨h1, h2⟩ := h j hj
  rw [World.frozen?_setCell, List.getElem_set]
  refine ⟨?_, h2⟩
  by_cases e : i = j
  · subst e
    rw [if_pos rfl]
    exact World.cell?_setCell_same w _ _ h1
  · rw [if_neg e]
    rw [World.cell?_setCell_other w _ _ _ (by simp)]
    exact h1
theorem rowB_string {w : World} {g cap : Nat} {l : List UInt8} {n : Nat} (h : RowB w g l) (hn : n = l.length) :
    (convert 71 9 (.slice (some ⟨g, 0, none⟩) n cap)).run Tryd.prog w = .ok (.string ⟨l.toArray⟩) w := by
  subst hn
  exact run_convert_bytes_back w _ _ 5 _ _ l Tryd.underlying71 Tryd.underlying5 Tryd.underlying9 (fun j hj => by rw [addr_add]; exact (h j hj).1)
end Go.Proofs.YtbcofimmfbmkoaaDoor
