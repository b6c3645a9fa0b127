/- Texts of small laws, one behind the other. -/
import Derived.Test.YtmfbkelhegdmpaaGreatDoorSumDL
import Derived.Test.YtmfbkelhegdmpaaGreatDoorJournalBD
import Derived.BigRegion
import Derived.Test.YtmfbkelhegdmpaaGreatDoorRanges
import Derived.Handy
import Derived.RangeFuncCalls
import Derived.RangeFuncBox
import Derived.WalkKit
import Derived.OwnWalkIn
import Derived.TacticsInMore
import Derived.LoopNIn
import Derived.LoopIn
import Derived.Test.YtmfbkelhegdmpaaGreatDoorKitAll
/- The walk of the cursor's next, chapter 12 (journal). -/
namespace Go.Proofs.YtmfbkelhegdmpaaGreatDoor
open Go.RowKit Disk11 Journal12 Sum2

def curCells (s : List UInt8) (a : Nat) (o : Bool) : Array Value := #[.string ⟨s.toArray⟩, .int .i64 (a : Int), .bool o]
theorem cur_facts {W : World} {c : Nat} {s : List UInt8} {a : Nat} {o : Bool} {t : Nat} (h : W.heap[c]? = some (.cells (curCells s a o) t (0, 0))) :
    W.cell? ⟨c, 0, none⟩ = some (.string ⟨s.toArray⟩) ∧ W.cell? ⟨c, 1, none⟩ = some (.int .i64 (a : Int)) ∧ W.cell? ⟨c, 2, none⟩ = some (.bool o) ∧ (∀ j, W.frozen? ⟨c, j, none⟩ = false) := by
  unfold curCells at h
  refine ⟨?_, ?_, ?_, fun j => ?_⟩ <;> simp [World.cell?, World.frozen?, h]
theorem lenJ_bits {s : List UInt8} {b1 b2 : UInt8} (h1 : s[1]? = some b1) (h2 : s[2]? = some b2) : lenJ s = 256 * b1.toNat + b2.toNat := by
  unfold lenJ; rw [h1, h2]; rfl

theorem i64_or_nat (a b : Nat) (ha : a < 9223372036854775808) (hb : b < 9223372036854775808) : bits .or .i64 (a : Int) (b : Int) = ((a ||| b : Nat) : Int) := by
  have hx : a ||| b < 2 ^ 63 := Nat.or_lt_two_pow (by omega) (by omega)
  show IntKind.i64.wrap ((BitVec.ofInt 64 (a : Int) ||| BitVec.ofInt 64 (b : Int)).toNat : Int) = _
  rw [BitVec.toNat_or, ofInt_u64 a (by omega), ofInt_u64 b (by omega), IntKind.wrap_i64]
  omega
theorem len_bits (a b : Nat) (ha : a < 256) (hb : b < 256) : bits .or .i64 (wrap64 (wrap64 (a : Int) * 256)) (wrap64 (b : Int)) = ((256 * a + b : Nat) : Int) := by
  have e1 : wrap64 (a : Int) = a := by unfold wrap64; omega
  have e2 : wrap64 (b : Int) = b := by unfold wrap64; omega
  have e3 : wrap64 ((a : Int) * 256) = ((2 ^ 8 * a : Nat) : Int) := by unfold wrap64; omega
  rw [e1, e2, e3, i64_or_nat _ _ (by omega) (by omega), ← Nat.two_pow_add_eq_or_of_lt (by omega)]
theorem lenJ_arr (r : List UInt8) (h1 : 1 < (⟨r.toArray⟩ : ByteArray).size) (h2 : 2 < (⟨r.toArray⟩ : ByteArray).size) : 256 * ((⟨r.toArray⟩ : ByteArray)[1]'h1).toNat + ((⟨r.toArray⟩ : ByteArray)[2]'h2).toNat = lenJ r := by
  have e1 : r[1]? = some ((⟨r.toArray⟩ : ByteArray)[1]'h1) := List.getElem?_eq_getElem h1
  have e2 : r[2]? = some ((⟨r.toArray⟩ : ByteArray)[2]'h2) := List.getElem?_eq_getElem h2
  exact (lenJ_bits e1 e2).symm
theorem recJ_none {r : List UInt8} (h : r.length < 10 ∨ lenJ r < 1 ∨ 60000 < lenJ r ∨ r.length < lenJ r + 10 ∨ r.take (lenJ r + 10) ≠ formJ ((r.drop 9).take (lenJ r))) : recJ r = none := by unfold recJ; rw [if_pos h]
theorem recJ_yes {r : List UInt8} (h : ¬ (r.length < 10 ∨ lenJ r < 1 ∨ 60000 < lenJ r ∨ r.length < lenJ r + 10 ∨ r.take (lenJ r + 10) ≠ formJ ((r.drop 9).take (lenJ r)))) : recJ r = some ((r.drop 9).take (lenJ r)) := by unfold recJ; rw [if_neg h]
set_option maxHeartbeats 8000000 in
set_option maxRecDepth 100000 in
theorem next_any (s : List UInt8) (a c : Nat) (o : Bool) (w : World) (ht : Tab w) (hc : w.heap[c]? = some (.cells (curCells s a o) 134 (0, 0))) (ha : a ≤ s.length) (hs : s.length ≤ 262144) :
    Calls Tryz.prog 126 #[.pointer (some ⟨c, 0, none⟩)] w fun e w' => w.grownBy w' (some c) ∧
      match recJ (s.drop a) with
      | none => e = .returned (.string ⟨#[]⟩) ∧ w'.heap[c]? = some (.cells (curCells s a true) 134 (0, 0))
      | some x => e = .returned (.string ⟨x.toArray⟩) ∧ w'.heap[c]? = some (.cells (curCells s (a + (x.length + 10)) o) 134 (0, 0)) := by
  obtain ⟨r, hr⟩ : ∃ r, r = s.drop a := ⟨_, rfl⟩
  have hrl : r.length ≤ 262144 := by rw [hr, List.length_drop]; omega
  have hsl := fun W => sub_high s a ha W
  rw [← hr] at hsl ⊢
  obtain ⟨c0, c1, c2, f0⟩ := cur_facts hc
  have f2 := f0 2
  have f1 := f0 1
  have hrz : (⟨r.toArray⟩ : ByteArray).size = r.length := rfl
  have hC := Lib.hid hc
  clear hr hc
  by_cases h1 : r.length < 10
  · have h1' : decide ((r.length : Int) < 10) = true := by simp; omega
    have hrec : recJ r = none := by unfold recJ; rw [if_pos (.inl h1)]
    rw [hrec]
    clear hrec ht
    go_enter Tryz.func126, Tryz.ntmps126
    go_wp2_with fail
    go_region
    go_wp2
    go_ret
    refine ⟨⟨rfl, rfl, rfl, (grown_cell w c 2 _).size, (grown_cell w c 2 _).block⟩, rfl, ?_⟩
    exact Lib.heap_setCell_same (i := 2) hC.out (.bool true)
  · have h1' : decide ((r.length : Int) < 10) = false := by simp; omega
    have i1 : (1 : Int) < r.length := by omega
    have i2 : (2 : Int) < r.length := by omega
    have hn := len_bits ((⟨r.toArray⟩ : ByteArray)[1]'(by rw [hrz]; omega)).toNat ((⟨r.toArray⟩ : ByteArray)[2]'(by rw [hrz]; omega)).toNat (u8lt _) (u8lt _)
    rw [lenJ_arr] at hn
    obtain ⟨n, hne⟩ : ∃ n, n = lenJ r := ⟨_, rfl⟩
    rw [← hne] at hn
    by_cases n1 : n < 1
    · have n1' : decide ((n : Int) < 1) = true := by simp; omega
      have hrec := recJ_none (r := r) (.inr (.inl (by omega)))
      rw [hrec]
      clear hne ht hrec
      go_enter Tryz.func126, Tryz.ntmps126
      go_wp2_with fail
      go_region
      go_wp2_with fail
      go_region
      go_wp2_with fail
      go_region
      go_wp2
      go_ret
      refine ⟨⟨rfl, rfl, rfl, (grown_cell w c 2 _).size, (grown_cell w c 2 _).block⟩, rfl, ?_⟩
      exact Lib.heap_setCell_same (i := 2) hC.out (.bool true)
    have n1' : decide ((n : Int) < 1) = false := by simp; omega
    by_cases n2 : 60000 < n
    · have n2' : decide ((60000 : Int) < n) = true := by simp; omega
      have hrec := recJ_none (r := r) (.inr (.inr (.inl (by omega))))
      rw [hrec]
      clear hne ht hrec
      go_enter Tryz.func126, Tryz.ntmps126
      go_wp2_with fail
      go_region
      go_wp2_with fail
      go_region
      go_wp2_with fail
      go_region
      go_wp2
      go_ret
      refine ⟨⟨rfl, rfl, rfl, (grown_cell w c 2 _).size, (grown_cell w c 2 _).block⟩, rfl, ?_⟩
      exact Lib.heap_setCell_same (i := 2) hC.out (.bool true)
    have n2' : decide ((60000 : Int) < n) = false := by simp; omega
    by_cases n3 : r.length < n + 10
    · have n3' : decide ((r.length : Int) < (n : Int) + 10) = true := by simp; omega
      have hrec := recJ_none (r := r) (.inr (.inr (.inr (.inl (by omega)))))
      rw [hrec]
      clear hne ht hrec
      go_enter Tryz.func126, Tryz.ntmps126
      go_wp2_with fail
      go_region
      go_wp2_with fail
      go_region
      go_wp2_with fail
      go_region
      go_wp2
      go_ret
      refine ⟨⟨rfl, rfl, rfl, (grown_cell w c 2 _).size, (grown_cell w c 2 _).block⟩, rfl, ?_⟩
      exact Lib.heap_setCell_same (i := 2) hC.out (.bool true)
    have n3' : decide ((r.length : Int) < (n : Int) + 10) = false := by simp; omega
    obtain ⟨x, hx⟩ : ∃ x, x = (r.drop 9).take n := ⟨_, rfl⟩
    have hxl : x.length = n := by rw [hx, List.length_take, List.length_drop]; omega
    obtain ⟨y, hy⟩ : ∃ y, y = r.take (n + 10) := ⟨_, rfl⟩
    have hs1 : ∀ W, (Instr.slice 9 (.string ⟨r.toArray⟩) none (some (.int .i64 ((n : Int) + 10))) none).run Tryz.prog W = .ok (.string ⟨y.toArray⟩) W := fun W => by
      have := sub_low r (n + 10) (by omega) W
      rw [← hy] at this
      exact this
    have hs2 : ∀ W, (Instr.slice 9 (.string ⟨r.toArray⟩) (some (.int .i64 9)) (some (.int .i64 (9 + (n : Int)))) none).run Tryz.prog W = .ok (.string ⟨x.toArray⟩) W := fun W => by
      have := sub_mid r 9 (9 + n) (by omega) (by omega) W
      rw [show 9 + n - 9 = n by omega, ← hx] at this
      have e : (9 : Int) + (n : Int) = ((9 + n : Nat) : Int) := by omega
      rw [e]
      exact this
    have HF := Lib.hid (fun W h => form_any x (by omega) W h)
    have hT := Lib.hid ht
    have hN := Lib.hid hne
    have hX := Lib.hid hx
    have hY := Lib.hid hy
    have w1 : IntKind.i64.wrap ((n : Int) + 10) = (n : Int) + 10 := by rw [IntKind.wrap_i64]; omega
    have w2 : IntKind.i64.wrap (9 + (n : Int)) = 9 + (n : Int) := by rw [IntKind.wrap_i64]; omega
    obtain ⟨ρ, hρ⟩ : ∃ ρ, ρ = recJ r := ⟨_, rfl⟩
    rw [← hρ]
    have hP := Lib.hid hρ
    clear ht hne hx hy hρ
    go_enter Tryz.func126, Tryz.ntmps126
    go_wp2_with fail
    go_region
    go_wp2_with fail
    go_region
    go_wp2_with fail
    go_region_held3 (fun _ => True) (trivial) (first | (go_at_call 110; refine (HF.out _ (show Tab w.drew.drew.drew from hT.out)).mono ?_; rintro e w5 ⟨rfl, b5⟩))
    have k5 := heap_below (show w.drew.drew.drew.heap[c]? = _ from hC.out) b5
    obtain ⟨d0, d1, d2, g0⟩ := cur_facts k5
    have g1 := g0 1
    have g2 := g0 2
    have hg : w.grownBy w5 (some c) := ⟨b5.os, b5.tape, b5.output, b5.size, fun k hk _ => b5.block k hk⟩
    have hgr := Lib.hid hg
    have hk5 := Lib.hid k5
    clear c0 c1 c2 f0 f1 f2 g0 b5 k5 hg hsl hn
    generalize hB : (!(y == formJ x)) = B
    cases B with
    | false =>
      have hyf : y = formJ x := by simpa using hB
      have hrec : recJ r = some x := by
        rw [hX.out, hN.out]
        refine recJ_yes ?_
        rw [← hN.out]
        rintro (g | g | g | g | g)
        · exact h1 g
        · exact n1 g
        · exact n2 g
        · exact n3 g
        · exact g (by rw [← hX.out, ← hyf, hY.out])
      obtain rfl : ρ = some x := by rw [hP.out, hrec]
      have hx10 : x.length + 10 ≤ 262144 := by omega
      have ha' : a ≤ 262144 := by omega
      have hxn := hxl
      clear hyf hrec hB
      go_wp2
      go_ret
      have g := grown_cell w5 c 1 (.int .i64 ((a : Int) + ((n : Int) + 10)))
      have gw := hgr.out
      refine ⟨⟨gw.os, gw.tape, gw.output, Nat.le_trans gw.size g.size, fun k hk hne => (g.block k (Nat.lt_of_lt_of_le hk gw.size) hne).trans (gw.block k hk hne)⟩, rfl, ?_⟩
      have := Lib.heap_setCell_same (i := 1) hk5.out (.int .i64 ((a : Int) + ((n : Int) + 10)))
      rw [this]
      unfold curCells
      simp
    | true =>
      have hyf : ¬ y = formJ x := by simpa using hB
      have hrec := recJ_none (r := r) (.inr (.inr (.inr (.inr (by rw [← hN.out, ← hX.out, ← hY.out]; exact hyf)))))
      obtain rfl : ρ = none := by rw [hP.out, hrec]
      clear hyf hrec hB
      go_wp2
      go_ret
      have g := grown_cell w5 c 2 (.bool true)
      have gw := hgr.out
      refine ⟨⟨gw.os, gw.tape, gw.output, Nat.le_trans gw.size g.size, fun k hk hne => (g.block k (Nat.lt_of_lt_of_le hk gw.size) hne).trans (gw.block k hk hne)⟩, rfl, ?_⟩
      exact Lib.heap_setCell_same (i := 2) hk5.out (.bool true)
end Go.Proofs.YtmfbkelhegdmpaaGreatDoor
/- The walks of the iterator over the records of a region, chapter 12 (journal). -/
namespace Go.Proofs.YtmfbkelhegdmpaaGreatDoor
open Go.RowKit Disk11 Journal12 Sum2

attribute [local go_sem] Oper.semAt_some

theorem walkJ_none {s : List UInt8} (n : Nat) (h : recJ s = none) : walkJ (n + 1) s = [] := by
  show (match recJ s with | none => [] | some x => x :: walkJ n (s.drop (x.length + 10))) = []
  rw [h]
theorem walkJ_some {s x : List UInt8} (n : Nat) (h : recJ s = some x) : walkJ (n + 1) s = x :: walkJ n (s.drop (x.length + 10)) := by
  show (match recJ s with | none => [] | some x => x :: walkJ n (s.drop (x.length + 10))) = _
  rw [h]
def recsAt : Nat → List (List UInt8) → List (Nat × List UInt8)
  | _, [] => []
  | a, x :: l => (a, x) :: recsAt (a + (x.length + 10)) l
theorem recsAt_snd : ∀ (a : Nat) (l : List (List UInt8)), (recsAt a l).map (·.2) = l
  | _, [] => rfl
  | a, x :: l => by unfold recsAt; rw [List.map_cons, recsAt_snd]
theorem recsAt_fst : ∀ (a : Nat) (l : List (List UInt8)), (recsAt a l).map (·.1) = offsJ a l
  | _, [] => rfl
  | a, x :: l => by unfold recsAt offsJ; rw [List.map_cons, recsAt_fst]
def recEnc (p : Nat × List UInt8) : Array Value := #[.int .i64 (p.1 : Int), .string ⟨p.2.toArray⟩]
def curAt (W : World) (c : Nat) : Nat := match W.cell? ⟨c, 1, none⟩ with | some (.int _ a) => a.toNat | _ => 0
theorem curAt_of {W : World} {c : Nat} {s : List UInt8} {a : Nat} {o : Bool} {t : Nat} (h : W.heap[c]? = some (.cells (curCells s a o) t (0, 0))) : curAt W c = a := by
  unfold curAt; rw [(cur_facts h).2.1]; simp
theorem cell1_of {W : World} {c t : Nat} {v : Value} (h : W.heap[c]? = some (.cells #[v] t (0, 0))) : W.cell? ⟨c, 0, none⟩ = some v := by simp [World.cell?, h]
/-- The box of the iterator's parameter. -/
def BoxAt (b c : Nat) (W : World) : Prop := W.heap[b]? = some (.cells #[.pointer (some ⟨c, 0, none⟩)] 131 (0, 0)) ∧ Tab W

set_option maxHeartbeats 400000 in
theorem records_any (n c : Nat) (w : World) :
    CallsIn Fence.wide n Tryz.prog 94 #[.pointer (some ⟨c, 0, none⟩)] w fun e w' => e = .returned (.func (.func 125) #[] #[.pointer (some ⟨w.heap.size, 0, none⟩)]) ∧ w' = w.alloc (.cells #[.pointer (some ⟨c, 0, none⟩)] 131) := by
  refine callsIn_of_wp Tryz.func94 rfl trivial ?_ rfl
  simp only [Tryz.ntmps94, List.size_toArray, List.length_cons, List.length_nil, Nat.reduceAdd, Nat.reduceSub, Array.replicate_succ, Array.replicate_zero, List.push_toArray, List.append_toArray, List.nil_append, List.cons_append]
  gi_wp2
  go_ret
  exact ⟨rfl, rfl⟩

set_option maxHeartbeats 4000000 in
set_option maxRecDepth 100000 in
theorem records1_any (n b c : Nat) (s : List UInt8) (hs : s.length ≤ 262144) (L : List (Nat × List UInt8)) (hL0 : L = recsAt 0 (recsJ s)) :
    SeqV Fence.wide n Tryz.prog 125 #[.pointer (some ⟨b, 0, none⟩)] recEnc c 134 (BoxAt b c) (curCells s 0 false) (curCells s (sizeJ (recsJ s)) true) L := by
  intro l J Jx W hJ hJx hJK hc hY h0
  have hLs : L.map (·.2) = recsJ s := by rw [hL0, recsAt_snd]
  refine callsIn_of_wp Tryz.func125 rfl trivial ?_ rfl
  simp only [Tryz.ntmps125, List.size_toArray, List.length_cons, List.length_nil, Nat.reduceAdd, Nat.reduceSub, Array.replicate_succ, Array.replicate_zero, List.push_toArray, List.append_toArray, List.nil_append, List.cons_append]
  gi_wp2
  gi_loopw [] (fun wr => ∃ (pre : List (Nat × List UInt8)) (a f : Nat), L = pre ++ recsAt a (walkJ (f + 1) (s.drop a)) ∧ a ≤ s.length ∧ s.length - a ≤ f ∧ a = sizeJ (pre.map (·.2)) ∧ wr.heap[c]? = some (.cells (curCells s a false) 134 (0, 0)) ∧ J pre wr)
    (fun wr => s.length - curAt wr c)
  case atStart => exact ⟨[], 0, s.length, hL0, Nat.zero_le _, Nat.le_refl _, rfl, hc, h0⟩
  case round =>
    clear hL0 hc h0
    obtain ⟨pre, a, f, hL, ha, hf, hap, hcr, hJs⟩ := hrel
    obtain ⟨hbx, htab⟩ := hJK _ _ hJs
    have HN := Lib.hid (next_any s a c false wr htab hcr ha hs)
    have hb0 := cell1_of hbx
    obtain ⟨c0, c1, c2, f0⟩ := cur_facts hcr
    have hbc : b ≠ c := fun e => by rw [e, hcr] at hbx; cases hbx
    have hbH := Lib.hid hbx
    have hcH := Lib.hid hcr
    have hLH := Lib.hid hL
    have hJH := Lib.hid hJs
    have hapH := Lib.hid hap
    clear hbx htab f0 hcr hL hJs hap
    gi_wp2_with fail
    refine ⟨trivial, fun h => (by cases h), ?_⟩
    refine (callsIn_wide.2 HN.out).mono ?_
    rintro e w2 ⟨hg2, hm⟩
    have hT2 : TurnedV c 134 wr w2 := ⟨hg2, by
      split at hm
      · exact ⟨_, hm.2⟩
      · exact ⟨_, hm.2⟩⟩
    have hJ2 := Lib.hid (hJ _ _ _ hJH.out hT2)
    have hbx2 := (hg2.block b (Array.getElem?_eq_some_iff.1 hbH.out).1 (fun e => hbc (by cases e; rfl))).trans hbH.out
    have hb2 := cell1_of hbx2
    clear HN hb0 c0 c1 c2
    cases hrec : recJ (s.drop a) with
    | none =>
      rw [hrec] at hm
      obtain ⟨rfl, hc2⟩ := hm
      have hw : walkJ (f + 1) (s.drop a) = [] := walkJ_none f hrec
      have hLp : L = pre := by rw [hLH.out, hw]; unfold recsAt; rw [List.append_nil]
      obtain ⟨c0, c1, c2, f0⟩ := cur_facts hc2
      have hcH2 := Lib.hid hc2
      clear hg2 hT2 hrec hw hbx2 hc2 f0
      gi_wp2
      refine ⟨fun f h => (by cases h), ?_⟩
      gi_wp2
      refine bodyPost_ret (results_none rfl _ _ _) rfl ?_
      refine ⟨⟨_, rfl⟩, .inl ⟨hLp ▸ hJ2.out, ?_⟩⟩
      rw [hcH2.out, ← hLs, hLp, ← hapH.out]
    | some x =>
      rw [hrec] at hm
      obtain ⟨rfl, hc2⟩ := hm
      have hw : walkJ (f + 1) (s.drop a) = x :: walkJ f ((s.drop a).drop (x.length + 10)) := walkJ_some f hrec
      obtain ⟨hsx, hx1, hx2⟩ := recJ_some hrec
      have hsl := congrArg List.length hsx
      rw [List.length_append, formJ_length, List.length_drop, List.length_drop, List.length_drop] at hsl
      have hL2 : L = pre ++ (a, x) :: recsAt (a + (x.length + 10)) (walkJ f (s.drop (a + (x.length + 10)))) := by
        rw [hLH.out, hw, List.drop_drop]; rfl
      obtain ⟨fn, tmps, assign, body, hy, hR⟩ := hY _ _ _ w2 hL2 hJ2.out
      unfold recEnc at hy
      dsimp only at hy
      obtain ⟨c0, c1, c2, f0⟩ := cur_facts hc2
      have hcH2 := Lib.hid hc2
      have hL2H := Lib.hid hL2
      have hslH := Lib.hid hsl
      clear hg2 hT2 hrec hw hbx2 hc2 f0 hsx hL2 hsl
      gi_wp2_with fail
      refine ⟨fun h => (by cases h), ?_⟩
      refine hR.mono ?_
      rintro e W3 (⟨rfl, hJ3, hc3⟩ | ⟨rfl, hJx3⟩)
      · gi_wp2
        go_roundw
        case rel =>
          have hsl := hslH.out
          match f, hf, hL2H.out with
          | 0, hf, _ => exact absurd hf (by omega)
          | f + 1, hf, hL2 =>
            have hc4 := hc3.trans hcH2.out
            exact ⟨pre ++ [(a, x)], a + (x.length + 10), f, by rw [hL2, List.append_assoc]; rfl, by omega, by omega, by rw [List.map_append, sizeJ_append, ← hapH.out]; simp [sizeJ], hc4, hJ3⟩
        case measure =>
          have hsl := hslH.out
          have hc4 := hc3.trans hcH2.out
          rw [curAt_of hcH.out, curAt_of hc4]; omega
      · gi_wp2
        refine bodyPost_ret (results_none rfl _ _ _) rfl ?_
        exact ⟨⟨_, rfl⟩, .inr ⟨_, by rw [hL2H.out]; exact ⟨_, by rw [List.append_assoc]; rfl⟩, hJx3⟩⟩
end Go.Proofs.YtmfbkelhegdmpaaGreatDoor
/- What stands of the caller's in the loops over records, chapter 12 (journal). -/
namespace Go.Proofs.YtmfbkelhegdmpaaGreatDoor
open Go.RowKit Disk11 Journal12 Sum2

theorem own_turn {W W' : World} {n₀ e size n k : Nat} {v : Value} {xs : List Value} (h : W.ownsRow n₀ e size v n xs) (hg : W.grownBy W' (some k)) (hk : ∃ o, W.heap[k]? = some o ∧ ∀ cs, o ≠ .cells cs e (0, 0)) : W'.ownsRow n₀ e size v n xs :=
  World.ownsRow.kept h hg (by
    rcases h.2 with ⟨rfl, _⟩ | ⟨g, cap, cur, rfl, _, hh, _⟩
    · exact Or.inl rfl
    · refine Or.inr (fun e1 => ?_)
      simp only [Value.ownBlock, Option.some.injEq] at e1
      subst e1
      obtain ⟨o, ho, hne⟩ := hk
      rw [hh] at ho
      cases ho
      exact hne _ rfl)

/-- What stands of the caller's between two rounds. -/
def RepI (w : World) (c oc b : Nat) (pre : List (Nat × List UInt8)) (W : World) : Prop :=
  (∃ v, Boxed W oc 26 v ∧ Txt W w.heap.size v (pre.map (·.2))) ∧ BoxAt b c W ∧ Below w.heap.size w W ∧ ∃ cv, W.heap[c]? = some (.cells cv 134 (0, 0))
theorem RepI.grown {w A A' : World} {c oc b k : Nat} {pre : List (Nat × List UInt8)} (h : RepI w c oc b pre A) (hw : Tab w) (hg : A.grownBy A' (some k)) (hk : w.heap.size ≤ k) (h1 : k ≠ oc) (h2 : k ≠ b) (ho : ∃ o, A.heap[k]? = some o ∧ ∀ cs, o ≠ .cells cs 9 (0, 0)) (hz : ∃ cv, A'.heap[c]? = some (.cells cv 134 (0, 0))) : RepI w c oc b pre A' := by
  obtain ⟨⟨v, hb, hx⟩, ⟨hb2, htab⟩, hbl, _⟩ := h
  have hbl' : Below w.heap.size w A' := hbl.grown hg hbl.size (fun j hj => by cases hj; omega)
  exact ⟨⟨v, hb.kept hg (by simp; omega), own_turn hx hg ho⟩, ⟨(hg.block _ (Array.getElem?_eq_some_iff.1 hb2).1 (by simp; omega)).trans hb2, hw.below hbl'⟩, hbl', hz⟩
theorem RepI.mine (w : World) (c oc b B : Nat) (hw : Tab w) (h0 : w.heap.size ≤ c) (hB : oc < B ∧ b < B ∧ c < B) (h1 : c ≠ oc) (h2 : c ≠ b) : MineV c 134 B (RepI w c oc b) := by
  refine ⟨fun s A A' h hT => h.grown hw hT.1 h0 h1 h2 ?_ hT.2, fun s A A' k h hg hk ⟨o, ho, hoc⟩ => h.grown hw hg ?_ (by omega) (by omega) ⟨o, ho, fun cs e => by rw [e] at hoc; cases hoc⟩ ?_⟩
  · obtain ⟨_, _, _, cv, hcv⟩ := h
    exact ⟨_, hcv, fun cs e => by cases e⟩
  · obtain ⟨_, _, _, cv, hcv⟩ := h
    omega
  · obtain ⟨_, _, _, cv, hcv⟩ := h
    exact ⟨cv, (hg.block _ (Array.getElem?_eq_some_iff.1 hcv).1 (by simp; omega)).trans hcv⟩

/-- What stands of the caller's between two rounds. -/
def PlaI (w : World) (c oc b : Nat) (pre : List (Nat × List UInt8)) (W : World) : Prop :=
  (∃ v, Boxed W oc 54 v ∧ Ints W w.heap.size v (pre.map (·.1))) ∧ BoxAt b c W ∧ Below w.heap.size w W ∧ ∃ cv, W.heap[c]? = some (.cells cv 134 (0, 0))
theorem PlaI.grown {w A A' : World} {c oc b k : Nat} {pre : List (Nat × List UInt8)} (h : PlaI w c oc b pre A) (hw : Tab w) (hg : A.grownBy A' (some k)) (hk : w.heap.size ≤ k) (h1 : k ≠ oc) (h2 : k ≠ b) (ho : ∃ o, A.heap[k]? = some o ∧ ∀ cs, o ≠ .cells cs 3 (0, 0)) (hz : ∃ cv, A'.heap[c]? = some (.cells cv 134 (0, 0))) : PlaI w c oc b pre A' := by
  obtain ⟨⟨v, hb, hx⟩, ⟨hb2, htab⟩, hbl, _⟩ := h
  have hbl' : Below w.heap.size w A' := hbl.grown hg hbl.size (fun j hj => by cases hj; omega)
  exact ⟨⟨v, hb.kept hg (by simp; omega), own_turn hx hg ho⟩, ⟨(hg.block _ (Array.getElem?_eq_some_iff.1 hb2).1 (by simp; omega)).trans hb2, hw.below hbl'⟩, hbl', hz⟩
theorem PlaI.mine (w : World) (c oc b B : Nat) (hw : Tab w) (h0 : w.heap.size ≤ c) (hB : oc < B ∧ b < B ∧ c < B) (h1 : c ≠ oc) (h2 : c ≠ b) : MineV c 134 B (PlaI w c oc b) := by
  refine ⟨fun s A A' h hT => h.grown hw hT.1 h0 h1 h2 ?_ hT.2, fun s A A' k h hg hk ⟨o, ho, hoc⟩ => h.grown hw hg ?_ (by omega) (by omega) ⟨o, ho, fun cs e => by rw [e] at hoc; cases hoc⟩ ?_⟩
  · obtain ⟨_, _, _, cv, hcv⟩ := h
    exact ⟨_, hcv, fun cs e => by cases e⟩
  · obtain ⟨_, _, _, cv, hcv⟩ := h
    omega
  · obtain ⟨_, _, _, cv, hcv⟩ := h
    exact ⟨cv, (hg.block _ (Array.getElem?_eq_some_iff.1 hcv).1 (by simp; omega)).trans hcv⟩

theorem kept_app {W w1 : World} {n₀ B e size n k t : Nat} {v v' : Value} {xs : List Value} {tmp : Obj} {cs : Array Value} (hrow : W.ownsRow n₀ e size v n xs) (hgrow : (W.alloc tmp).grownBy w1 v.ownBlock) (hk : W.heap[k]? = some (.cells cs t (0, 0))) (hte : t ≠ e) (hkB : k ≠ B) :
    (w1.setCell ⟨B, 0, none⟩ v').heap[k]? = some (.cells cs t (0, 0)) := by
  have hlt := (Array.getElem?_eq_some_iff.1 hk).1
  refine one_other hkB ((hgrow.block k (by rw [World.size_alloc]; omega) ?_).trans ((Below.heap_alloc _ _ _ hlt).trans hk))
  rcases hrow.2 with ⟨rfl, _⟩ | ⟨g, cap, cur, rfl, _, hh, _⟩
  · simp [Value.ownBlock]
  · intro e1
    simp only [Value.ownBlock, Option.some.injEq] at e1
    subst e1
    rw [hh] at hk
    cases hk
    exact hte rfl
end Go.Proofs.YtmfbkelhegdmpaaGreatDoor
