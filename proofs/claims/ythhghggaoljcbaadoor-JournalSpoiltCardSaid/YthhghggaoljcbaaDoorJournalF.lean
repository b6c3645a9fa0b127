/- The walk of the cursor's next, chapter 12 (journal). -/
import Derived.Test.YthhghggaoljcbaaDoorJournalA
import Derived.Test.YthhghggaoljcbaaDoorJournalD
import Derived.BigRegion
namespace Go.Proofs.YthhghggaoljcbaaDoor
open Go.RowKit Disk11 Journal12 Sum2

def curCells (s : List UInt8) (a : Nat) (o : Bool) : Array Value := #[.string ⟨s.toArray⟩, .int .i64 (a : Int), .bool o]
theorem cur_facts {W : World} {c : Nat} {s : List UInt8} {a : Nat} {o : Bool} {t : Nat} (h : W.heap[c]? = some (.cells (curCells s a o) t (0, 0))) :
    W.cell? ⟨c, 0, none⟩ = some (.string ⟨s.toArray⟩) ∧ W.cell? ⟨c, 1, none⟩ = some (.int .i64 (a : Int)) ∧ W.cell? ⟨c, 2, none⟩ = some (.bool o) ∧ (∀ j, W.frozen? ⟨c, j, none⟩ = false) := by
  unfold curCells at h
  refine ⟨?_, ?_, ?_, fun j => ?_⟩ <;> simp [World.cell?, World.frozen?, h]
theorem lenJ_bits {s : List UInt8} {b1 b2 : UInt8} (h1 : s[1]? = some b1) (h2 : s[2]? = some b2) : lenJ s = 256 * b1.toNat + b2.toNat := by
  unfold lenJ; rw [h1, h2]; rfl

theorem i64_or_nat (a b : Nat) (ha : a < 9223372036854775808) (hb : b < 9223372036854775808) : bits .or .i64 (a : Int) (b : Int) = ((a ||| b : Nat) : Int) := by
  have hx : a ||| b < 2 ^ 63 := Nat.or_lt_two_pow (by omega) (by omega)
  show IntKind.i64.wrap ((BitVec.ofInt 64 (a : Int) ||| BitVec.ofInt 64 (b : Int)).toNat : Int) = _
  rw [BitVec.toNat_or, ofInt_u64 a (by omega), ofInt_u64 b (by omega), IntKind.wrap_i64]
  omega
theorem len_bits (a b : Nat) (ha : a < 256) (hb : b < 256) : bits .or .i64 (wrap64 (wrap64 (a : Int) * 256)) (wrap64 (b : Int)) = ((256 * a + b : Nat) : Int) := by
  have e1 : wrap64 (a : Int) = a := by unfold wrap64; omega
  have e2 : wrap64 (b : Int) = b := by unfold wrap64; omega
  have e3 : wrap64 ((a : Int) * 256) = ((2 ^ 8 * a : Nat) : Int) := by unfold wrap64; omega
  rw [e1, e2, e3, i64_or_nat _ _ (by omega) (by omega), ← Nat.two_pow_add_eq_or_of_lt (by omega)]
theorem lenJ_arr (r : List UInt8) (h1 : 1 < (⟨r.toArray⟩ : ByteArray).size) (h2 : 2 < (⟨r.toArray⟩ : ByteArray).size) : 256 * ((⟨r.toArray⟩ : ByteArray)[1]'h1).toNat + ((⟨r.toArray⟩ : ByteArray)[2]'h2).toNat = lenJ r := by
  have e1 : r[1]? = some ((⟨r.toArray⟩ : ByteArray)[1]'h1) := List.getElem?_eq_getElem h1
  have e2 : r[2]? = some ((⟨r.toArray⟩ : ByteArray)[2]'h2) := List.getElem?_eq_getElem h2
  exact (lenJ_bits e1 e2).symm
theorem recJ_none {r : List UInt8} (h : r.length < 10 ∨ lenJ r < 1 ∨ 60000 < lenJ r ∨ r.length < lenJ r + 10 ∨ r.take (lenJ r + 10) ≠ formJ ((r.drop 9).take (lenJ r))) : recJ r = none := by unfold recJ; rw [if_pos h]
theorem recJ_yes {r : List UInt8} (h : ¬ (r.length < 10 ∨ lenJ r < 1 ∨ 60000 < lenJ r ∨ r.length < lenJ r + 10 ∨ r.take (lenJ r + 10) ≠ formJ ((r.drop 9).take (lenJ r)))) : recJ r = some ((r.drop 9).take (lenJ r)) := by unfold recJ; rw [if_neg h]
set_option maxHeartbeats 8000000 in
set_option maxRecDepth 100000 in
theorem next_any (s : List UInt8) (a c : Nat) (o : Bool) (w : World) (ht : Tab w) (hc : w.heap[c]? = some (.cells (curCells s a o) 85 (0, 0))) (ha : a ≤ s.length) (hs : s.length ≤ 262144) :
    Calls Tryd.prog 81 #[.pointer (some ⟨c, 0, none⟩)] w fun e w' => w.grownBy w' (some c) ∧
      match recJ (s.drop a) with
      | none => e = .returned (.string ⟨#[]⟩) ∧ w'.heap[c]? = some (.cells (curCells s a true) 85 (0, 0))
      | some x => e = .returned (.string ⟨x.toArray⟩) ∧ w'.heap[c]? = some (.cells (curCells s (a + (x.length + 10)) o) 85 (0, 0)) := by
  obtain ⟨r, hr⟩ : ∃ r, r = s.drop a := ⟨_, rfl⟩
  have hrl : r.length ≤ 262144 := by rw [hr, List.length_drop]; omega
  have hsl := fun W => sub_high s a ha W
  rw [← hr] at hsl ⊢
  obtain ⟨c0, c1, c2, f0⟩ := cur_facts hc
  have f2 := f0 2
  have f1 := f0 1
  have hrz : (⟨r.toArray⟩ : ByteArray).size = r.length := rfl
  have hC := Lib.hid hc
  clear hr hc
  by_cases h1 : r.length < 10
  · have h1' : decide ((r.length : Int) < 10) = true := by simp; omega
    have hrec : recJ r = none := by unfold recJ; rw [if_pos (.inl h1)]
    rw [hrec]
    clear hrec ht
    go_enter Tryd.func81, Tryd.ntmps81
    go_wp2_with fail
    go_region
    go_wp2
    go_ret
    refine ⟨⟨rfl, rfl, rfl, (grown_cell w c 2 _).size, (grown_cell w c 2 _).block⟩, rfl, ?_⟩
    exact Lib.heap_setCell_same (i := 2) hC.out (.bool true)
  · have h1' : decide ((r.length : Int) < 10) = false := by simp; omega
    have i1 : (1 : Int) < r.length := by omega
    have i2 : (2 : Int) < r.length := by omega
    have hn := len_bits ((⟨r.toArray⟩ : ByteArray)[1]'(by rw [hrz]; omega)).toNat ((⟨r.toArray⟩ : ByteArray)[2]'(by rw [hrz]; omega)).toNat (u8lt _) (u8lt _)
    rw [lenJ_arr] at hn
    obtain ⟨n, hne⟩ : ∃ n, n = lenJ r := ⟨_, rfl⟩
    rw [← hne] at hn
    by_cases n1 : n < 1
    · have n1' : decide ((n : Int) < 1) = true := by simp; omega
      have hrec := recJ_none (r := r) (.inr (.inl (by omega)))
      rw [hrec]
      clear hne ht hrec
      go_enter Tryd.func81, Tryd.ntmps81
      go_wp2_with fail
      go_region
      go_wp2_with fail
      go_region
      go_wp2_with fail
      go_region
      go_wp2
      go_ret
      refine ⟨⟨rfl, rfl, rfl, (grown_cell w c 2 _).size, (grown_cell w c 2 _).block⟩, rfl, ?_⟩
      exact Lib.heap_setCell_same (i := 2) hC.out (.bool true)
    have n1' : decide ((n : Int) < 1) = false := by simp; omega
    by_cases n2 : 60000 < n
    · have n2' : decide ((60000 : Int) < n) = true := by simp; omega
      have hrec := recJ_none (r := r) (.inr (.inr (.inl (by omega))))
      rw [hrec]
      clear hne ht hrec
      go_enter Tryd.func81, Tryd.ntmps81
      go_wp2_with fail
      go_region
      go_wp2_with fail
      go_region
      go_wp2_with fail
      go_region
      go_wp2
      go_ret
      refine ⟨⟨rfl, rfl, rfl, (grown_cell w c 2 _).size, (grown_cell w c 2 _).block⟩, rfl, ?_⟩
      exact Lib.heap_setCell_same (i := 2) hC.out (.bool true)
    have n2' : decide ((60000 : Int) < n) = false := by simp; omega
    by_cases n3 : r.length < n + 10
    · have n3' : decide ((r.length : Int) < (n : Int) + 10) = true := by simp; omega
      have hrec := recJ_none (r := r) (.inr (.inr (.inr (.inl (by omega)))))
      rw [hrec]
      clear hne ht hrec
      go_enter Tryd.func81, Tryd.ntmps81
      go_wp2_with fail
      go_region
      go_wp2_with fail
      go_region
      go_wp2_with fail
      go_region
      go_wp2
      go_ret
      refine ⟨⟨rfl, rfl, rfl, (grown_cell w c 2 _).size, (grown_cell w c 2 _).block⟩, rfl, ?_⟩
      exact Lib.heap_setCell_same (i := 2) hC.out (.bool true)
    have n3' : decide ((r.length : Int) < (n : Int) + 10) = false := by simp; omega
    obtain ⟨x, hx⟩ : ∃ x, x = (r.drop 9).take n := ⟨_, rfl⟩
    have hxl : x.length = n := by rw [hx, List.length_take, List.length_drop]; omega
    obtain ⟨y, hy⟩ : ∃ y, y = r.take (n + 10) := ⟨_, rfl⟩
    have hs1 : ∀ W, (Instr.slice 9 (.string ⟨r.toArray⟩) none (some (.int .i64 ((n : Int) + 10))) none).run Tryd.prog W = .ok (.string ⟨y.toArray⟩) W := fun W => by
      have := sub_low r (n + 10) (by omega) W
      rw [← hy] at this
      exact this
    have hs2 : ∀ W, (Instr.slice 9 (.string ⟨r.toArray⟩) (some (.int .i64 9)) (some (.int .i64 (9 + (n : Int)))) none).run Tryd.prog W = .ok (.string ⟨x.toArray⟩) W := fun W => by
      have := sub_mid r 9 (9 + n) (by omega) (by omega) W
      rw [show 9 + n - 9 = n by omega, ← hx] at this
      have e : (9 : Int) + (n : Int) = ((9 + n : Nat) : Int) := by omega
      rw [e]
      exact this
    have HF := Lib.hid (fun W h => form_any x (by omega) W h)
    have hT := Lib.hid ht
    have hN := Lib.hid hne
    have hX := Lib.hid hx
    have hY := Lib.hid hy
    have w1 : IntKind.i64.wrap ((n : Int) + 10) = (n : Int) + 10 := by rw [IntKind.wrap_i64]; omega
    have w2 : IntKind.i64.wrap (9 + (n : Int)) = 9 + (n : Int) := by rw [IntKind.wrap_i64]; omega
    obtain ⟨ρ, hρ⟩ : ∃ ρ, ρ = recJ r := ⟨_, rfl⟩
    rw [← hρ]
    have hP := Lib.hid hρ
    clear ht hne hx hy hρ
    go_enter Tryd.func81, Tryd.ntmps81
    go_wp2_with fail
    go_region
    go_wp2_with fail
    go_region
    go_wp2_with fail
    go_region_held3 (fun _ => True) (trivial) (first | (go_at_call 50; refine (HF.out _ (show Tab w.drew.drew.drew from hT.out)).mono ?_; rintro e w5 ⟨rfl, b5⟩))
    have k5 := heap_below (show w.drew.drew.drew.heap[c]? = _ from hC.out) b5
    obtain ⟨d0, d1, d2, g0⟩ := cur_facts k5
    have g1 := g0 1
    have g2 := g0 2
    have hg : w.grownBy w5 (some c) := ⟨b5.os, b5.tape, b5.output, b5.size, fun k hk _ => b5.block k hk⟩
    have hgr := Lib.hid hg
    have hk5 := Lib.hid k5
    clear c0 c1 c2 f0 f1 f2 g0 b5 k5 hg hsl hn
    generalize hB : (!(y == formJ x)) = B
    cases B with
    | false =>
      have hyf : y = formJ x := by simpa using hB
      have hrec : recJ r = some x := by
        rw [hX.out, hN.out]
        refine recJ_yes ?_
        rw [← hN.out]
        rintro (g | g | g | g | g)
        · exact h1 g
        · exact n1 g
        · exact n2 g
        · exact n3 g
        · exact g (by rw [← hX.out, ← hyf, hY.out])
      obtain rfl : ρ = some x := by rw [hP.out, hrec]
      have hx10 : x.length + 10 ≤ 262144 := by omega
      have ha' : a ≤ 262144 := by omega
      have hxn := hxl
      clear hyf hrec hB
      go_wp2
      go_ret
      have g := grown_cell w5 c 1 (.int .i64 ((a : Int) + ((n : Int) + 10)))
      have gw := hgr.out
      refine ⟨⟨gw.os, gw.tape, gw.output, Nat.le_trans gw.size g.size, fun k hk hne => (g.block k (Nat.lt_of_lt_of_le hk gw.size) hne).trans (gw.block k hk hne)⟩, rfl, ?_⟩
      have := Lib.heap_setCell_same (i := 1) hk5.out (.int .i64 ((a : Int) + ((n : Int) + 10)))
      rw [this]
      unfold curCells
      simp
    | true =>
      have hyf : ¬ y = formJ x := by simpa using hB
      have hrec := recJ_none (r := r) (.inr (.inr (.inr (.inr (by rw [← hN.out, ← hX.out, ← hY.out]; exact hyf)))))
      obtain rfl : ρ = none := by rw [hP.out, hrec]
      clear hyf hrec hB
      go_wp2
      go_ret
      have g := grown_cell w5 c 2 (.bool true)
      have gw := hgr.out
      refine ⟨⟨gw.os, gw.tape, gw.output, Nat.le_trans gw.size g.size, fun k hk hne => (g.block k (Nat.lt_of_lt_of_le hk gw.size) hne).trans (gw.block k hk hne)⟩, rfl, ?_⟩
      exact Lib.heap_setCell_same (i := 2) hk5.out (.bool true)
end Go.Proofs.YthhghggaoljcbaaDoor
