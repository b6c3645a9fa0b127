/- The walks of the matrices of chapter 2: times, after, zeros. -/
import Derived.Test.YtkgenpoenpkpeaaDoorSumF
import Derived.Laws.Tables
import Derived.Laws.CopyOwn
namespace Go.Proofs.YtkgenpoenpkpeaaDoor
open Go.RowKit Sum2

/-- A matrix as the cells of its block. -/
def mcells (m : Nat → Nat) : Array Value := ((List.range 32).map fun i => Value.int .u32 (m i : Int)).toArray
theorem mcells_size (m : Nat → Nat) : (mcells m).size = 32 := by simp [mcells]
theorem mcells_get (m : Nat → Nat) (i : Nat) (h : i < 32) : (mcells m)[i]? = some (.int .u32 (m i : Int)) := by simp [mcells, h]
theorem mcells_congr {m m' : Nat → Nat} (h : ∀ i, i < 32 → m i = m' i) : mcells m = mcells m' := by
  unfold mcells
  congr 1
  apply List.map_congr_left
  intro i hi
  rw [h i (by simpa using hi)]
theorem mcells_set (m : Nat → Nat) (k v : Nat) (_hk : k < 32) : (mcells m).setIfInBounds k (.int .u32 (v : Int)) = mcells (fun i => if i = k then v else m i) := by
  apply Array.ext_getElem?
  intro i
  rw [Array.getElem?_setIfInBounds, mcells_size]
  by_cases hi : i < 32
  · rw [mcells_get _ i hi, mcells_get _ i hi]
    by_cases e : k = i
    · subst e; simp [hi]
    · rw [if_neg e, if_neg (fun h => e h.symm)]
  · rw [Array.getElem?_eq_none (by rw [mcells_size]; omega), Array.getElem?_eq_none (by rw [mcells_size]; omega), if_neg (by omega)]
theorem mcells_one (m : Nat → Nat) : (mcells m).all (·.oneCell') = true := by
  simp [mcells, Value.oneCell']
theorem info_mat : (Tryd.prog.info? 56).map (·.size) = some 32 := by kernel_rfl

/-- Block g is the matrix m. -/
def Mat (w : World) (g : Nat) (m : Nat → Nat) : Prop := w.heap[g]? = some (.cells (mcells m) 56 (0, 0))
theorem Mat.lt {w : World} {g : Nat} {m : Nat → Nat} (h : Mat w g m) : g < w.heap.size := (Array.getElem?_eq_some_iff.1 h).1
theorem Mat.cell {w : World} {g : Nat} {m : Nat → Nat} (h : Mat w g m) (i : Nat) (hi : i < 32) : w.cell? ⟨g, i, none⟩ = some (.int .u32 (m i : Int)) := by
  rw [cell_of_row w g i _ _ _ h]; exact mcells_get m i hi
theorem Mat.frozen {w : World} {g : Nat} {m : Nat → Nat} (h : Mat w g m) (i : Nat) : w.frozen? ⟨g, i, none⟩ = false := frozen_of_row w g i _ _ h
theorem Mat.below {w w' : World} {g : Nat} {m : Nat → Nat} (h : Mat w g m) (hb : Below w.heap.size w w') : Mat w' g m := by
  unfold Mat; rw [hb.block g h.lt]; exact h
theorem Mat.set {w : World} {g : Nat} {m : Nat → Nat} (h : Mat w g m) (k v : Nat) (hk : k < 32) : Mat (w.setCell ⟨g, k, none⟩ (.int .u32 (v : Int))) g (fun i => if i = k then v else m i) := by
  unfold Mat
  rw [heap_setCell_same w g k _ _ _ h, mcells_set m k v hk]

theorem setRow_new {w : World} {g : Nat} {old : Array Value} {t : TypeId} {fr : Nat × Nat} (h : w.heap[g]? = some (.cells old t fr)) (cs : Array Value) : (w.setRow g cs).heap[g]? = some (.cells cs t fr) := by
  simp only [World.setRow, Array.getElem?_modify, if_true, h]; rfl

theorem timesN_lt (m : Nat → Nat) (hm : ∀ i, i < 32 → m i < 4294967296) (x n : Nat) (hn : n ≤ 32) : timesN m x n < 4294967296 := by
  induction n with
  | zero => simp [timesN]
  | succ n ih =>
    unfold timesN
    split
    · exact Nat.xor_lt_two_pow (n := 32) (ih (by omega)) (hm n (by omega))
    · exact ih (by omega)
theorem times_lt (m : Nat → Nat) (hm : ∀ i, i < 32 → m i < 4294967296) (x : Nat) : times m x < 4294967296 := timesN_lt m hm x 32 (by omega)

theorem bit_is' (p n : Nat) (hp : p < 4294967296) : bits .and .u32 ((p : Int) / 2 ^ n) 1 = ((p / 2 ^ n % 2 : Nat) : Int) := by
  have h := u32_and_nat (p / 2 ^ n) 1 (Nat.lt_of_le_of_lt (Nat.div_le_self _ _) hp) (by decide)
  rw [nat_mask1] at h
  have e : ((p / 2 ^ n : Nat) : Int) = (p : Int) / 2 ^ n := by rw [Int.natCast_ediv]; simp
  rw [e] at h
  exact h

theorem times_any (g : Nat) (m : Nat → Nat) (hm : ∀ i, i < 32 → m i < 4294967296) (x : Nat) (hx : x < 4294967296) (w : World) (hM : Mat w g m) :
    Calls Tryd.prog 48 #[.pointer (some ⟨g, 0, none⟩), .int .u32 x] w fun e w' => e = .returned (.int .u32 (times m x : Nat)) ∧ w = w' := by
  have HM := Lib.hid hM; have Hm := Lib.hid hm; clear hM hm
  go_enter Tryd.func48, Tryd.ntmps48
  go_wp2_with fail
  go_loop [5, 7] (fun r i => ∃ k q : Nat, k ≤ 32 ∧ i = .int .i64 k ∧ r = .int .u32 q ∧ Hid (q = timesN m x k) ∧ q < 4294967296) (fun _ i => 32 - (intOf i).toNat)
  case atStart => exact ⟨0, 0, by omega, rfl, rfl, rfl, by decide⟩
  case round =>
    obtain ⟨k, q, hk, rfl, rfl, hq, hq32⟩ := hrel
    by_cases hlt : k < 32
    · have hc := HM.out.cell k hlt
      have hmk := Hm.out k hlt
      have hbits := bit_is' x k hx
      obtain ⟨y, hy⟩ : ∃ y, y = m k := ⟨_, rfl⟩
      rw [← hy] at hc hmk
      have HY := Lib.hid hy; clear hy
      by_cases hb : x / 2 ^ k % 2 = 1
      · rw [hb] at hbits
        obtain ⟨z, hz⟩ : ∃ z, z = q ^^^ y := ⟨_, rfl⟩
        have hxor := u32_xor_nat q y hq32 hmk
        rw [← hz] at hxor
        have hz32 : z < 4294967296 := by rw [hz]; exact Nat.xor_lt_two_pow (n := 32) hq32 hmk
        have HZ := Lib.hid hz; have HB := Lib.hid hb
        clear hz hb
        go_wp2_with fail
        go_round
        case rel => exact ⟨k + 1, z, by omega, by go_num, rfl, by
          show z = timesN m x (k + 1)
          unfold timesN
          rw [if_pos HB.out, ← hq.out, ← HY.out, HZ.out], hz32⟩
        case measure => simp [intOf]; omega
      · have hb0 : x / 2 ^ k % 2 = 0 := by omega
        rw [hb0] at hbits
        have HB := Lib.hid hb
        clear hb hb0
        go_wp2_with fail
        go_round
        case rel => exact ⟨k + 1, q, by omega, by go_num, rfl, by
          show q = timesN m x (k + 1)
          unfold timesN
          rw [if_neg HB.out, ← hq.out], hq32⟩
        case measure => simp [intOf]; omega
    · obtain rfl : k = 32 := by omega
      go_wp2_with fail
      go_ret
      exact ⟨ret_u32 (by rw [hq.out]; rfl), rfl⟩

theorem after_any (g : Nat) (m : Nat → Nat) (hm : ∀ i, i < 32 → m i < 4294967296) (w : World) (hM : Mat w g m) :
    Calls Tryd.prog 49 #[.pointer (some ⟨g, 0, none⟩), .pointer (some ⟨g, 0, none⟩)] w fun e w' => e = .returned (.agg (mcells (fun i => times m (m i)))) ∧ Below w.heap.size w w' := by
  have HM := Lib.hid hM; have Hm := Lib.hid hm; clear hM hm
  go_enter Tryd.func49, Tryd.ntmps49
  go_wp2_with fail
  go_loopw [7] (fun i wr => ∃ k : Nat, k ≤ 32 ∧ i = .int .i64 k ∧ Mat wr w.heap.size (fun _ => 0) ∧ Mat wr (w.heap.size + 1) (fun i => if i < k then times m (m i) else 0) ∧ Below w.heap.size w wr) (fun i _ => 32 - (intOf i).toNat)
  case atStart => exact ⟨0, by omega, rfl, heap_alloc2_old _ _ _, heap_alloc2_new _ _ _, ((Below.refl _ _).alloc (Nat.le_refl _) _).alloc (by simp) _⟩
  case round =>
    obtain ⟨k, hk, rfl, hA, hB, hb⟩ := hrel
    have hg : g ≠ w.heap.size + 1 := by have := HM.out.lt; omega
    by_cases hlt : k < 32
    · have hMr := HM.out.below hb
      have hc := hMr.cell k hlt
      have hmk := Hm.out k hlt
      have ct := times_any g m Hm.out (m k) hmk wr hMr
      have hcB := hB.cell k hlt
      have hfB := hB.frozen k
      have hset := hB.set k (times m (m k)) hlt
      obtain ⟨y, hy⟩ : ∃ y, y = m k := ⟨_, rfl⟩
      obtain ⟨t, ht⟩ : ∃ t, t = times m (m k) := ⟨_, rfl⟩
      rw [← ht] at ct hset
      rw [← hy] at hc ct
      have CT := Lib.hid ct; have HS := Lib.hid hset
      have HT := Lib.hid ht
      clear hmk hMr ct hset hy ht
      have HA := Lib.hid hA; have HB := Lib.hid hB
      clear hA hB
      go_wp2_with fail
      refine CT.out.mono ?_; rintro e w1 ⟨rfl, rfl⟩
      go_wp2_with fail
      go_roundw
      case rel =>
        refine ⟨k + 1, by omega, by go_num, ?_, ?_, hb.setCell (by simp) _⟩
        · unfold Mat
          rw [heap_setCell_other _ _ _ _ (by simp)]
          exact HA.out
        · have h := HS.out
          unfold Mat at h ⊢
          rw [h]
          congr 2
          apply mcells_congr
          intro i _
          by_cases e : i = k
          · subst e; rw [if_pos rfl, if_pos (by omega), HT.out]
          · rw [if_neg e]
            by_cases e2 : i < k
            · rw [if_pos e2, if_pos (by omega)]
            · rw [if_neg e2, if_neg (by omega)]
      case measure => simp [intOf]; omega
    · obtain rfl : k = 32 := by omega
      have e0 : mcells (fun i => if i < 32 then times m (m i) else 0) = mcells (fun i => times m (m i)) := mcells_congr fun i hi => by rw [if_pos hi]
      unfold Mat at hA hB
      rw [e0] at hB
      have HA := Lib.hid hA; have HB := Lib.hid hB
      clear hA hB
      go_wp2_with (first
        | (with_reducible refine wpList_load_row rfl 56 _ rfl _ rfl _ _ _ _ HB.out Tryd.underlying56 rfl (by rw [mcells_size]; exact info_mat) ?_)
        | (with_reducible refine wpList_store_row rfl 56 _ _ rfl _ _ rfl rfl _ _ HA.out (by rw [mcells_size]; exact info_mat) (by rw [mcells_size, mcells_size]) (mcells_one _) ?_))
      refine bodyPost_ret (v := .agg (mcells fun i => times m (m i))) (results_cell_row (ty := 56) rfl _ _ w.heap.size 56 _ (0, 0) _ rfl (setRow_new HA.out _) Tryd.underlying56 rfl (by rw [mcells_size]; exact info_mat)) rfl ⟨rfl, below_setRow hb (Nat.le_refl _) _⟩

theorem i64_and_one (n : Nat) (_hn : n < 9223372036854775808) : bits .and .i64 (n : Int) 1 = ((n % 2 : Nat) : Int) := by
  have h1 : (BitVec.ofInt 64 1).toNat = 2 ^ 1 - 1 := by decide
  have key : (BitVec.ofInt 64 (n : Int) &&& BitVec.ofInt 64 1).toNat = ((n : Int) % ((2 ^ 64 : Nat) : Int)).toNat % 2 ^ 1 := by
    rw [BitVec.toNat_and, BitVec.toNat_ofInt, h1, Nat.and_two_pow_sub_one_eq_mod]
  show IntKind.i64.wrap ((BitVec.ofInt 64 (n : Int) &&& BitVec.ofInt 64 1).toNat : Nat) = _
  rw [key, IntKind.wrap_i64]
  omega
theorem times_zero_lt (m : Nat → Nat) (hm : ∀ i, i < 32 → m i < 4294967296) : ∀ i, i < 32 → times m (m i) < 4294967296 := fun _ _ => times_lt m hm _

theorem zerosM_zero (F : Nat) (m : Nat → Nat) (x : Nat) : zerosM F m x 0 = x := by cases F <;> rfl
theorem zerosM_pos (F : Nat) (m : Nat → Nat) (x n : Nat) (h : 0 < n) : zerosM (F + 1) m x n = zerosM F (fun i => times m (m i)) (if n % 2 = 1 then times m x else x) (n / 2) := by
  show (if n = 0 then x else _) = _
  rw [if_neg (by omega)]

set_option maxHeartbeats 1000000 in
theorem zeros_any (m : Nat → Nat) (hm : ∀ i, i < 32 → m i < 4294967296) (x : Nat) (hx : x < 4294967296) (n : Nat) (hn : n < 32768) (w : World) :
    Calls Tryd.prog 43 #[.agg (mcells m), .int .u32 x, .int .i64 n] w fun e w' => e = .returned (.int .u32 (zerosM 15 m x n : Nat)) ∧ Below w.heap.size w w' := by
  obtain ⟨R, hR⟩ : ∃ R, R = zerosM 15 m x n := ⟨_, rfl⟩
  rw [← hR]
  have HR := Lib.hid hR; have Hm := Lib.hid hm; clear hR hm
  have hcs := mcells_size m
  go_enter Tryd.func43, Tryd.ntmps43
  go_wp2_with fail
  go_loopw [1, 2] (fun xv nv wr => ∃ (F : Nat) (m' : Nat → Nat) (x' n' : Nat), n' < 2 ^ F ∧ n' < 32768 ∧ x' < 4294967296 ∧ xv = .int .u32 x' ∧ nv = .int .i64 n' ∧ Mat wr w.heap.size m' ∧ Hid (∀ i, i < 32 → m' i < 4294967296) ∧ Hid (R = zerosM F m' x' n') ∧ Below w.heap.size w wr) (fun _ nv _ => (intOf nv).toNat)
  case atStart => exact ⟨15, m, x, n, hn, hn, hx, rfl, rfl, heap_alloc_new _ _, Hm, HR, (Below.refl _ _).alloc (Nat.le_refl _) _⟩
  case round =>
    obtain ⟨F, m', x', n', hF, hn', hx', rfl, rfl, hM, hm', hR', hb⟩ := hrel
    by_cases hp : 0 < n'
    · obtain ⟨F, rfl⟩ : ∃ F', F = F' + 1 := ⟨F - 1, by cases F with | zero => omega | succ F => rfl⟩
      have hF2 : n' / 2 < 2 ^ F := by rw [Nat.pow_succ] at hF; omega
      have hbit := i64_and_one n' (by omega)
      have hMt := hM
      have ct := times_any w.heap.size m' hm'.out x' hx' wr hM
      have ca := after_any w.heap.size m' hm'.out wr hM
      have htl := times_lt m' hm'.out x'
      obtain ⟨y, hy⟩ : ∃ y, y = times m' x' := ⟨_, rfl⟩
      rw [← hy] at ct htl
      have hR2 := hR'.out
      rw [zerosM_pos F m' x' n' hp] at hR2
      have CT := Lib.hid ct; have CA := Lib.hid ca; have HM := Lib.hid hM; have HY := Lib.hid hy; have HR2 := Lib.hid hR2
      have HF2 := Lib.hid hF2
      clear ct ca hM hy hR2 hF hF2 hMt hcs
      by_cases ho : n' % 2 = 1
      · rw [ho] at hbit
        have HO := Lib.hid ho; clear ho
        go_wp2_with fail
        refine CT.out.mono ?_; rintro e w1 ⟨rfl, rfl⟩
        go_wp2_with fail
        refine CA.out.mono ?_; rintro e w1 ⟨rfl, hb1⟩
        have hM1 := HM.out.below hb1
        unfold Mat at hM1
        have HM1 := Lib.hid hM1; clear hM1
        go_wp2_with (with_reducible refine wpList_store_row rfl 56 _ _ rfl _ _ rfl rfl _ _ HM1.out (by rw [mcells_size]; exact info_mat) (by rw [mcells_size, mcells_size]) (mcells_one _) ?_)
        go_roundw
        case rel => exact ⟨F, fun i => times m' (m' i), y, n' / 2, HF2.out, by omega, htl, rfl, by go_num, setRow_new HM1.out _, times_zero_lt m' hm'.out, by
          have h := HR2.out
          rw [if_pos HO.out, ← HY.out] at h
          exact h, below_setRow (hb.trans (hb1.mono hb.size)) (Nat.le_refl _) _⟩
        case measure => simp [intOf]; omega
      · have ho0 : n' % 2 = 0 := by omega
        rw [ho0] at hbit
        have HO := Lib.hid ho; clear ho ho0
        go_wp2_with fail
        refine CA.out.mono ?_; rintro e w1 ⟨rfl, hb1⟩
        have hM1 := HM.out.below hb1
        unfold Mat at hM1
        have HM1 := Lib.hid hM1; clear hM1
        go_wp2_with (with_reducible refine wpList_store_row rfl 56 _ _ rfl _ _ rfl rfl _ _ HM1.out (by rw [mcells_size]; exact info_mat) (by rw [mcells_size, mcells_size]) (mcells_one _) ?_)
        go_roundw
        case rel => exact ⟨F, fun i => times m' (m' i), x', n' / 2, HF2.out, by omega, hx', rfl, by go_num, setRow_new HM1.out _, times_zero_lt m' hm'.out, by
          have h := HR2.out
          rw [if_neg HO.out] at h
          exact h, below_setRow (hb.trans (hb1.mono hb.size)) (Nat.le_refl _) _⟩
        case measure => simp [intOf]; omega
    · obtain rfl : n' = 0 := by omega
      have h := hR'.out
      rw [zerosM_zero] at h
      subst h
      clear hM
      go_wp2_with fail
      go_ret
      exact ⟨rfl, hb⟩
end Go.Proofs.YtkgenpoenpkpeaaDoor
