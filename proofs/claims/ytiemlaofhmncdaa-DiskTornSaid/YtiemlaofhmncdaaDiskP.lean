/- The walks of slices.Repeat and New, chapter 11 (disk). -/
import Derived.Test.YtiemlaofhmncdaaDiskL
import Derived.Test.YtiemlaofhmncdaaDiskW
import Derived.Test.YtiemlaofhmncdaaShelf
import Derived.OwnWalk
import Derived.Laws.CopyRow
namespace Go.Proofs.Ytiemlaofhmncdaa
open Go.RowKit Disk11

/-- The block g holds just these texts. -/
def RowIs (w : World) (g : Nat) (l : List (List UInt8)) : Prop := w.heap[g]? = some (.cells (strVals l).toArray 9 (0, 0))
theorem copy_txt (w : World) (g o dLen dCap sLen sCap : Nat) (a : Addr) (l c : List (List UInt8)) (hg : RowIs w g l) (hn : c.length = Nat.min sLen dLen)
    (hsrc : ∀ j v, (strVals c)[j]? = some v → w.cell? (a.add j) = some v) (hfit : o + c.length ≤ l.length) :
    (Builtin.copy_ #[22, 22] 3 #[.slice (some ⟨g, o, none⟩) dLen dCap, .slice (some a) sLen sCap]).run Try.prog w =
      .ok (goInt c.length) (w.setRow g (strVals (l.take o ++ c ++ l.drop (o + c.length))).toArray) := by
  have := run_copy_row (P := Try.prog) w 22 22 3 9 g o dLen dCap a sLen sCap (strVals l).toArray 9 (strVals c) Try.underlying22 (by kernel_rfl) hg (by rw [strVals_length]; exact hn) hsrc (by rw [strVals_length, List.size_toArray, strVals_length]; exact hfit) (strVals_one c)
  rw [strVals_length] at this
  rw [this]
  congr 2
  unfold strVals
  rw [List.map_append, List.map_append, List.map_take, List.map_drop]
theorem slice_txt (ad : Addr) (n l h : Nat) (h1 : l ≤ h) (h2 : h ≤ n) (W : World) : (Instr.slice 22 (.slice (some ad) n n) (some (.int .i64 (l : Int))) none none).run Try.prog W = .ok (.slice (some (if n = l then ad else ad.add l)) (n - l) (n - l)) W ∧
    (Instr.slice 22 (.slice (some ad) n n) none (some (.int .i64 (h : Int))) none).run Try.prog W = .ok (.slice (some ad) h n) W := by
  have hu : Try.prog.underlying 22 = some (.slice (Try.prog.elem 22)) := by kernel_rfl
  have hz : (Go.sizeOf (Try.prog.elem 22)).run Try.prog W = .ok 1 W := by
    rw [show Try.prog.elem 22 = 9 by kernel_rfl]
    exact Try.sizeOf9 W
  constructor
  · rw [run_slice_l (P := Try.prog) W 22 (some ad) n n hu .i64 (l : Int) (by omega) (by omega), hz]
    simp only [Result.andThen, sliced, Int.toNat_natCast, Nat.mul_one]
    by_cases e : n = l
    · rw [if_pos e, if_pos e]
    · rw [if_neg e, if_neg e]; rfl
  · rw [run_slice_h (P := Try.prog) W 22 (some ad) n n hu .i64 (h : Int) (by omega) (by omega), hz]
    simp only [Result.andThen, sliced, Int.toNat_natCast, Nat.sub_zero, Nat.zero_mul]
    split
    · rfl
    · simp [Addr.add]

theorem made_txt {w : World} {base g n : Nat} (h : w.ownsRow base 9 1 (.slice (some ⟨g, 0, none⟩) n n) n (madeCells (Value.cells (.string ⟨#[]⟩)) (n * 1)).toList) : RowIs w g (List.replicate n []) := by
  have e : (madeCells (Value.cells (.string ⟨#[]⟩)) (n * 1)).toList = strVals (List.replicate n []) := by
    apply List.ext_getElem?
    intro i
    unfold madeCells strVals
    by_cases h : i < n
    · simp [Value.cells, h, Nat.mod_one]
    · simp [h]
  rw [e] at h
  rcases h.2 with ⟨h1, _⟩ | ⟨g', cap, cur, h1, _, hg, _, _, hc, ht⟩
  · cases h1
  · cases h1
    unfold RowIs
    rw [hg, ← ht, List.take_of_length_le (by rw [Array.length_toList]; omega)]
theorem cell_below' {w w' : World} {a : Addr} {x : Value} (hg : w.grownBy w' none) (h : w.cell? a = some x) : w'.cell? a = some x := by
  have := hg.block a.block (cell_lt h) (by simp)
  unfold World.cell? at *
  rw [this]; exact h
theorem src_one {w : World} {g : Nat} {b : List UInt8} (h : w.cell? ⟨g, 0, none⟩ = some (.string ⟨b.toArray⟩)) : ∀ j v, (strVals [b])[j]? = some v → w.cell? ((⟨g, 0, none⟩ : Addr).add j) = some v := by
  intro j v hj
  match j, hj with
  | 0, hj => simp [strVals] at hj; subst hj; rw [addr_add]; exact h
set_option maxHeartbeats 4000000 in
set_option maxRecDepth 100000 in
theorem repeat_any (b : List UInt8) (n : Nat) (g0 : Nat) (w : World) (h1 : 1 ≤ n) (h2 : n ≤ 4096) (hc : w.cell? ⟨g0, 0, none⟩ = some (.string ⟨b.toArray⟩)) :
    Calls Try.prog 43 #[.slice (some ⟨g0, 0, none⟩) 1 1, .int .i64 n] w fun e w' => ∃ v', e = .returned v' ∧ w'.ownsRow w.heap.size 9 1 v' n (strVals (List.replicate n b)) ∧ Below w.heap.size w w' := by
  have hm : ∀ W, Calls Try.prog 54 #[.int .u64 1, .int .u64 n] W fun e w' => e = .returned (.tuple #[.int .u64 0, .int .u64 n]) ∧ w' = W := by
    intro W
    have h := Try.bits_Mul 1 n (by omega) (by omega) W
    rw [Nat.one_mul, Nat.div_eq_of_lt (by omega), Nat.mod_eq_of_lt (by omega)] at h
    exact h
  have hM := Lib.hid hm
  clear hm
  obtain ⟨i0, hi, hz0, hz1, hz2⟩ := info_parts infoStr
  have hn0 : decide ((n : Int) < 0) = false := by simp
  go_enter Try.func43, Try.ntmps43
  go_wp2_with fail
  refine (hM.out _).mono ?_
  rintro e w1 ⟨rfl, hw⟩
  subst w1
  go_wp2_with (refine wpList_make_full _ rfl _ _ 22 rfl w.heap.size 9 i0 (.string ⟨#[]⟩) 1 Try.underlying22 hi hz0 hz1 .i64 .i64 (n : Int) (n : Int) n rfl rfl rfl rfl (by rw [hz2]; omega) (by unfold maxLen; omega) (Nat.le_refl _) ?_; intro w1 o1 g1
               have hr0 := made_txt o1
               have hcp := copy_txt w1 w.heap.size 0 n n 1 1 ⟨g0, 0, none⟩ (List.replicate n []) [b] hr0 (by show 1 = Nat.min 1 n; exact (Nat.min_eq_left h1).symm) (src_one (cell_below' g1 hc)) (by simp; omega)
               rw [List.length_singleton] at hcp)
  have hr1 : RowIs (w1.setRow w.heap.size (strVals (b :: List.replicate (n - 1) [])).toArray) w.heap.size (b :: List.replicate (n - 1) []) := setRow_heap w1 w.heap.size _ _ _ _ hr0
  have hb1 : Below w.heap.size w (w1.setRow w.heap.size (strVals (b :: List.replicate (n - 1) [])).toArray) := ((Below.refl _ w).grown g1 (Nat.le_refl _) (fun j e => by cases e)).trans ⟨rfl, rfl, rfl, by simp, fun k hk => setRow_other w1 _ k _ (by omega)⟩
  generalize w1.setRow w.heap.size (strVals (b :: List.replicate (n - 1) [])).toArray = W1 at *
  clear hcp hr0 o1
  go_loopw [8] (fun i wr => ∃ (m : Nat) (l : List (List UInt8)), i = .int .i64 m ∧ 1 ≤ m ∧ m ≤ n ∧ RowIs wr w.heap.size l ∧ Hid (l.length = n ∧ l.take m = List.replicate m b) ∧ Below w.heap.size w wr) (fun i _ => n - (intOf i).toNat)
  case atStart => exact ⟨1, _, rfl, Nat.le_refl _, h1, hr1, Lib.hid ⟨by simp; omega, by simp⟩, hb1⟩
  case round =>
    obtain ⟨m, l, rfl, hm1, hmn, hrow, hl, hbl⟩ := hrel
    by_cases hlt : m < n
    · have hlt' : decide ((m : Int) < n) = true := by simp; omega
      obtain ⟨k, hk⟩ : ∃ k, k = Nat.min m (n - m) := ⟨_, rfl⟩
      have hk' : k = min m (n - m) := hk
      have hct : l.take k = List.replicate k b := by
        have h := congrArg (List.take k) hl.out.2
        rw [List.take_take, Nat.min_eq_left (by omega)] at h
        rw [h, List.take_replicate, Nat.min_eq_left (by omega)]
      have hs1 := fun W => (slice_txt ⟨w.heap.size, 0, none⟩ n m n (by omega) (Nat.le_refl _) W).1
      have hs2 := fun W => (slice_txt ⟨w.heap.size, 0, none⟩ n m m (Nat.le_refl _) hmn W).2
      rw [if_neg (by omega), addr_add] at hs1
      have hcp := copy_txt wr.drew w.heap.size m (n - m) (n - m) m n ⟨w.heap.size, 0, none⟩ l (l.take k) hrow (by rw [List.length_take, hl.out.1, ← hk]; omega) (fun j v hj => by
        have hjl : j < (l.take k).length := by
          rw [← strVals_length]
          rcases Nat.lt_or_ge j (strVals (l.take k)).length with h | h
          · exact h
          · rw [List.getElem?_eq_none h] at hj; cases hj
        have e : (strVals (l.take k))[j]? = (strVals l)[j]? := by
          rw [strVals_get, strVals_get, List.getElem?_take_of_lt (by rw [List.length_take] at hjl; omega)]
        rw [addr_add, cell_of_row wr.drew w.heap.size j _ _ _ hrow, List.getElem?_toArray, ← e]; exact hj) (by rw [List.length_take, hl.out.1]; omega)
      have hlen : (l.take k).length = k := by rw [List.length_take, hl.out.1]; omega
      rw [hlen] at hcp
      obtain ⟨l2, hl2⟩ : ∃ l2, l2 = l.take m ++ l.take k ++ l.drop (m + k) := ⟨_, rfl⟩
      rw [← hl2] at hcp
      have hr2 : RowIs (wr.drew.setRow w.heap.size (strVals l2).toArray) w.heap.size l2 := setRow_heap wr.drew w.heap.size _ _ _ _ hrow
      have hb2 : Below w.heap.size w (wr.drew.setRow w.heap.size (strVals l2).toArray) := hbl.drew.trans ⟨rfl, rfl, rfl, by simp, fun k hk => setRow_other wr.drew _ k _ (by omega)⟩
      have hl2p : l2.length = n ∧ l2.take (m + k) = List.replicate (m + k) b := by
        have h1 := hl.out.1
        have h2 : (l.take m ++ l.take k).length = m + k := by rw [List.length_append, List.length_take, List.length_take]; omega
        refine ⟨by rw [hl2, List.length_append, h2, List.length_drop]; omega, ?_⟩
        rw [hl2, List.take_append_of_le_length (by omega), List.take_of_length_le (by omega), hl.out.2, hct, List.replicate_append_replicate]
      have hHl := Lib.hid hl2p
      have hkp : 1 ≤ k := by omega
      have hkn : m + k ≤ n := by omega
      clear hl2p hl2 hct hk hk' hlen
      go_wp2
      go_region
      go_wp2
      exact ⟨⟨m + k, l2, rfl, by omega, hkn, hr2, hHl, hb2⟩, by simp [intOf]; omega⟩
    · obtain rfl : m = n := by omega
      have hlt' : decide ((m : Int) < m) = false := by simp
      have hle : l = List.replicate m b := by
        have := hl.out.2
        rw [List.take_of_length_le (by rw [hl.out.1]; exact Nat.le_refl _)] at this; exact this
      subst hle
      go_wp2
      go_ret
      exact ⟨_, rfl, ⟨by rw [strVals_length, List.length_replicate, Nat.mul_one], .inr ⟨w.heap.size, m, _, rfl, Nat.le_refl _, hrow, Nat.le_refl _, by unfold maxLen; omega, by simp [strVals_length], by simp [List.take_of_length_le, strVals_length]⟩⟩, hbl⟩
end Go.Proofs.Ytiemlaofhmncdaa
