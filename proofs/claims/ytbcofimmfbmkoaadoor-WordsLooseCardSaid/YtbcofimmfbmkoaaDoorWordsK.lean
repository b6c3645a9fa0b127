/- The walks of the iterator over the words of a line, chapter 3. -/
import Derived.Test.YtbcofimmfbmkoaaDoorWordsJ
import Derived.Test.YtbcofimmfbmkoaaDoorRangeG
import Derived.RangeFuncCalls
import Derived.Shelf.Abstract
import Derived.Shelf.RegionOpen
import Derived.WalkKit
import Derived.OwnWalkIn
import Derived.TacticsInMore
import Derived.LoopNIn
import Derived.LoopIn
import Derived.Sort.QuietIn
namespace Go.Proofs.YtbcofimmfbmkoaaDoor
open Go.RowKit Go.Shelf Words3

attribute [local go_sem] Oper.semAt_some

def wordVal (x : Wd) : Value := .agg #[.int .i64 (x.at_ : Int), .string ⟨x.key.toArray⟩, .string ⟨x.text.toArray⟩]
def wenc (x : Wd × Bool) : Array Value := #[wordVal x.1, .bool x.2]
/-- Between two rounds: new blocks, or a store into a scanner of this line's at or beyond B. -/
def TurnS (B : Nat) (X Y : World) : Prop := X.grownBy Y none ∨ ∃ b s k, B ≤ b ∧ Scn X b s k ∧ X.grownBy Y (some b)
/-- A round keeps the scanners at or beyond B. -/
def KeepS (B : Nat) (X Y : World) : Prop := ∀ b s k, B ≤ b → Scn X b s k → Scn Y b s k
theorem turnS_cells (B : Nat) : TCells (TurnS B) := by
  rintro X Y k o (h | ⟨b, s, j, _, hs, h⟩) ho hn
  · exact (h.block k (Array.getElem?_eq_some_iff.1 ho).1 (by simp)).trans ho
  · refine (h.block k (Array.getElem?_eq_some_iff.1 ho).1 (fun e => ?_)).trans ho
    obtain rfl := Option.some.inj e
    unfold Scn at hs
    rw [hs] at ho
    cases ho; cases hn
theorem words_any (n : Nat) (s : ByteArray) (w : World) :
    CallsIn Fence.wide n Tryd.prog 35 #[.string s] w fun e w' => e = .returned (.func (.func 47) #[] #[.pointer (some ⟨w.heap.size, 0, none⟩)]) ∧ w' = w.alloc (.cells #[.string s] 9) := by
  refine callsIn_of_wp Tryd.func35 rfl trivial ?_ rfl
  simp only [Tryd.ntmps35, List.size_toArray, List.length_cons, List.length_nil, Nat.reduceAdd, Nat.reduceSub, Array.replicate_succ, Array.replicate_zero, List.push_toArray, List.append_toArray, List.nil_append, List.cons_append]
  gi_wp2
  go_ret
  exact ⟨rfl, rfl⟩
theorem wordsGo_z (s : ByteArray) (k f : Nat) (h : k < s.size) : wordsGo (f + 1) k (s.data.toList.drop k) = if getz s k = 32 then wordsGo f (k + 1) (s.data.toList.drop (k + 1)) else if getz s k = 35 then [] else
    if (wordF (s.data.toList.drop k)).body.ok = true then (⟨k, (wordF (s.data.toList.drop k)).key, (wordF (s.data.toList.drop k)).body.text⟩, true) :: wordsGo f (posOf s (wordF (s.data.toList.drop k)).body.rest) (wordF (s.data.toList.drop k)).body.rest
    else [(⟨k, (wordF (s.data.toList.drop k)).key, (wordF (s.data.toList.drop k)).body.text⟩, false)] := by
  have hd := drop_getz s k h
  have hl : (s.data.toList.drop k).length = s.size - k := by rw [List.length_drop, bytes_len]
  rw [hd]
  rw [hd] at hl
  conv => lhs; unfold wordsGo
  by_cases h1 : getz s k = 32
  · simp only [if_pos h1]
  · simp only [if_neg h1]
    by_cases h2 : getz s k = 35
    · simp only [if_pos h2]
    · simp only [if_neg h2]
      by_cases h3 : (wordF (getz s k :: s.data.toList.drop (k + 1))).body.ok = true
      · simp only [if_pos h3]
        obtain ⟨i, e1, e2, e3, _⟩ := wordF_rest _ h3
        have e4 : k + ((getz s k :: s.data.toList.drop (k + 1)).length - (wordF (getz s k :: s.data.toList.drop (k + 1))).body.rest.length) = posOf s (wordF (getz s k :: s.data.toList.drop (k + 1))).body.rest := by
          unfold posOf
          rw [hl] at e3 ⊢
          rw [e1, List.length_drop, hl]; omega
        rw [e4]
      · simp only [if_neg h3]
theorem getz_is {s : ByteArray} {k : Nat} (h : k < s.size) (c : UInt8) {t : Bool} (e : (((s[k].toNat : Int)) == (c.toNat : Int)) = t) : decide (getz s k = c) = t := by
  rw [show getz s k = s[k] from dif_pos h, ← e, u8_beq]; rfl
set_option maxHeartbeats 4000000 in
set_option maxRecDepth 100000 in
theorem words1_any (n c : Nat) (s : ByteArray) (hs : s.size ≤ 100000) (B0 : Nat) (W : World) (hB0 : B0 ≤ W.heap.size) (hc : W.heap[c]? = some (.cells #[.string s] 9 (0, 0))) (L : List (Wd × Bool)) (hL0 : L = wordsF s.data.toList) :
    SeqG Fence.wide n Tryd.prog 47 #[.pointer (some ⟨c, 0, none⟩)] wenc (TurnS B0) (fun _ => True) (KeepS B0) L W := by
  intro l J Jx hJ hJx _ hY h0
  have c0 := cell1 hc
  have hLh := Lib.hid (show L = wordsGo (s.size + 1) 0 (s.data.toList.drop 0) by rw [hL0, List.drop_zero]; unfold wordsF; rw [bytes_len])
  clear hL0
  obtain ⟨b, hb⟩ : ∃ b, b = W.heap.size := ⟨_, rfl⟩
  have hS0 : Scn (W.alloc (.cells #[.string s, .int .i64 0] 66)) b s 0 := by rw [hb]; exact World.alloc_heap_new W _
  have hJ0 := hJ _ _ (W.alloc (.cells #[.string s, .int .i64 0] 66)) h0 (.inl (World.grownBy_alloc W _ none))
  have hbB : B0 ≤ b := by omega
  have HS0 := Lib.hid hS0
  have HJ0 := Lib.hid hJ0
  clear hS0 hJ0 h0
  refine callsIn_of_wp Tryd.func47 rfl trivial ?_ rfl
  simp only [Tryd.ntmps47, List.size_toArray, List.length_cons, List.length_nil, Nat.reduceAdd, Nat.reduceSub, Array.replicate_succ, Array.replicate_zero, List.push_toArray, List.append_toArray, List.nil_append, List.cons_append]
  gi_wp2_with fail
  refine wpIn_wide.2 (wp_scope_straight ((wpIn_wide (n := n)).1 ?_))
  gi_wp2_with fail
  refine wpIn_label ?_
  gi_wp2_with fail
  have hS0 := HS0.out
  have hJ0 := HJ0.out
  generalize World.alloc W _ = W0 at *
  rw [← hb]
  clear HS0 HJ0 hb hc c0
  gi_loopw [] (fun wr => ∃ (pre : List (Wd × Bool)) (k f : Nat), Hid (L = pre ++ wordsGo f k (s.data.toList.drop k)) ∧ k ≤ s.size ∧ s.size - k < f ∧ Hid (Scn wr b s k) ∧ Hid (J pre wr)) (fun wr => s.size - scanAt wr b)
  case atStart => exact ⟨[], 0, s.size + 1, Lib.hid hLh.out, Nat.zero_le _, by omega, Lib.hid hS0, Lib.hid hJ0⟩
  case round =>
    clear hLh hS0 hJ0
    obtain ⟨pre, k, f, hL, hk, hf, hS, hJs⟩ := hrel
    obtain ⟨Wr, rfl⟩ : ∃ Wr, Wr = wr := ⟨wr, rfl⟩
    obtain ⟨f, rfl⟩ : ∃ f', f = f' + 1 := ⟨f - 1, by omega⟩
    have hms := Lib.hid (scanAt_of hS.out)
    rcases Nat.lt_or_ge k s.size with hlt | hge
    · have HM := Lib.hid ((callsIn_wide (n := n - 1)).2 (more_yes Wr b k s hS.out hlt))
      have hz := wordsGo_z s k f hlt
      rw [hz] at hL
      clear hz
      gi_wp2_with (refine ⟨trivial, fun h => (by cases h), ?_⟩; gi_at_call 38; refine HM.out.mono ?_; clear HM; rintro e w1 ⟨rfl, m, rfl⟩; refine Hid.out ?_)
      refine Lib.hid ?_
      have HS1 := Lib.hid (hS.out.drewN m)
      have HJ1 := Lib.hid (hJ _ _ (Wr.drewN m) hJs.out (.inl (grow_drew Wr m none)))
      clear hS hJs
      generalize Wr.drewN m = W1 at *
      have c0 := HS1.out.c0
      have c1 := HS1.out.c1
      have j2 : (0 : Int) ≤ (k : Int) := by omega
      have j3 : (k : Int) < s.size := by omega
      have f1 := HS1.out.f1
      gi_wp2_with fail
      gi_quiet (fail)
      gi_wp2_with fail
      case roundEnd =>
        rename_i hb32
        rw [if_pos (of_decide_eq_true (getz_is hlt 32 hb32))] at hL
        have hS2 := set_at (HS1.out.drewN nq) (k + 1)
        rw [show (((k + 1 : Nat) : Int)) = (k : Int) + 1 by omega] at hS2
        refine ⟨⟨pre, k + 1, f, hL, by omega, by omega, Lib.hid hS2, Lib.hid ?_⟩, ?_⟩
        · exact hJ _ _ _ (hJ _ _ _ HJ1.out (.inl (grow_drew W1 nq none))) (.inr ⟨b, s, k, hbB, HS1.out.drewN nq, grown_cell _ b 1 _⟩)
        · rw [scanAt_of hS2, hms.out]; omega
      have hb32 : (((s[k].toNat : Int)) == 32) = false := by assumption
      rw [if_neg (of_decide_eq_false (getz_is hlt 32 hb32))] at hL
      have HS2 := Lib.hid (HS1.out.drewN nq)
      have HJ2 := Lib.hid (hJ _ _ _ HJ1.out (.inl (grow_drew W1 nq none)))
      clear HS1 HJ1 c0 c1 f1
      generalize W1.drewN nq = W2 at *
      have c0 := HS2.out.c0
      have c1 := HS2.out.c1
      gi_quiet (fail)
      gi_wp2_with fail
      · have hb35 : (((s[k].toNat : Int)) == 35) = true := by assumption
        rw [if_pos (of_decide_eq_true (getz_is hlt 35 hb35)), List.append_nil] at hL
        rw [Exit.noGoto_ret]
        refine bodyPost_ret (results_none rfl _ _ _) rfl ?_
        exact ⟨⟨_, rfl⟩, .inl (hL.out ▸ hJ _ _ _ HJ2.out (.inl (grow_drew W2 nq none)))⟩
      have hb35 : (((s[k].toNat : Int)) == 35) = false := by assumption
      rw [if_neg (of_decide_eq_false (getz_is hlt 35 hb35))] at hL
      have HS3 := Lib.hid (HS2.out.drewN nq)
      have HJ3 := Lib.hid (hJ _ _ _ HJ2.out (.inl (grow_drew W2 nq none)))
      clear HS2 HJ2 c0 c1
      generalize W2.drewN nq = W3 at *
      obtain ⟨x, hx⟩ : ∃ x, wordF (s.data.toList.drop k) = x := ⟨_, rfl⟩
      rw [hx] at hL
      have HW := Lib.hid ((callsIn_wide (n := n - 1)).2 (word_any W3 b k s hs HS3.out hk x hx))
      refine ⟨trivial, fun h => (by cases h), ?_⟩
      gi_at_call 48
      refine HW.out.mono ?_
      clear HW
      rintro e w4 ⟨rfl, k4, hk4, hSc, hrest⟩
      have HS5 := Lib.hid (show Scn (w4.alloc (.cells #[.int .i64 (k : Int), .string ⟨x.key.toArray⟩, .string ⟨x.body.text.toArray⟩] 46)) b s k4 from (Below.heap_alloc _ _ _ hSc.box.lt).trans hSc.box)
      have hJ5 := hJ _ _ (w4.alloc (.cells #[.int .i64 (k : Int), .string ⟨x.key.toArray⟩, .string ⟨x.body.text.toArray⟩] 46)) (hJ _ _ _ HJ3.out (.inr ⟨b, s, k, hbB, HS3.out, hSc.grow⟩)) (.inl (World.grownBy_alloc w4 _ none))
      clear HS3 HJ3 hSc
      by_cases hok : x.body.ok = true
      · rw [if_pos hok] at hL
        rw [hok]
        obtain ⟨i, e1, e2, e3, _⟩ := wordF_rest _ (by rw [hx]; exact hok)
        rw [hx, List.drop_drop] at e1
        rw [List.length_drop, bytes_len] at e3
        have hk5 : k4 = k + i := by rw [hrest hok, e1, posOf_drop _ _ (by omega)]
        rw [← hrest hok, show x.body.rest = s.data.toList.drop k4 by rw [e1, hk5]] at hL
        have Hk5 := Lib.hid hk5
        clear hk5 e1 e3 hrest hx
        obtain ⟨fn, tmps, assign, body, hy, hR⟩ := hY _ _ _ _ hL.out hJ5
        unfold wenc wordVal at hy
        dsimp only at hy
        have HR := Lib.hid hR
        clear hR hJ5
        gi_wp2_with fail
        refine ⟨fun h => (by cases h), ?_⟩
        refine HR.out.mono ?_
        rintro e W6 (⟨rfl, hJ6, hk6⟩ | ⟨rfl, hJx6⟩)
        · have HS6 := Lib.hid (hk6 b s k4 hbB HS5.out)
          have HJ6 := Lib.hid hJ6
          clear hk6 hJ6
          gi_wp2_with fail
          refine ⟨⟨_, k4, f, Lib.hid (by rw [hL.out, List.append_assoc]; rfl), hk4, by have := Hk5.out; omega, HS6, HJ6⟩, ?_⟩
          rw [scanAt_of HS6.out, hms.out]; have := Hk5.out; omega
        · gi_wp2_with fail
          rw [Exit.noGoto_ret]
          refine bodyPost_ret (results_none rfl _ _ _) rfl ?_
          exact ⟨⟨_, rfl⟩, .inr ⟨_, by rw [hL.out]; exact ⟨_, by rw [List.append_assoc]; rfl⟩, hJx6⟩⟩
      · rw [if_neg hok] at hL
        rw [Bool.not_eq_true] at hok
        rw [hok]
        clear hrest hx
        obtain ⟨fn, tmps, assign, body, hy, hR⟩ := hY _ _ _ _ hL.out hJ5
        unfold wenc wordVal at hy
        dsimp only at hy
        have HR := Lib.hid hR
        clear hR hJ5
        gi_wp2_with fail
        refine ⟨fun h => (by cases h), ?_⟩
        refine HR.out.mono ?_
        rintro e W6 (⟨rfl, hJ6, hk6⟩ | ⟨rfl, hJx6⟩)
        · gi_wp2_with fail
          rw [Exit.noGoto_ret]
          refine bodyPost_ret (results_none rfl _ _ _) rfl ?_
          exact ⟨⟨_, rfl⟩, .inl (hL.out ▸ hJ6)⟩
        · gi_wp2_with fail
          rw [Exit.noGoto_ret]
          refine bodyPost_ret (results_none rfl _ _ _) rfl ?_
          exact ⟨⟨_, rfl⟩, .inr ⟨_, by rw [hL.out]; exact List.prefix_refl _, hJx6⟩⟩
    · have hks : k = s.size := by omega
      subst hks
      have HM := Lib.hid ((callsIn_wide (n := n - 1)).2 (more_no Wr b s.size s hS.out (Nat.le_refl _)))
      gi_wp2_with (refine ⟨trivial, fun h => (by cases h), ?_⟩; gi_at_call 38; refine HM.out.mono ?_; clear HM; rintro e w1 ⟨rfl, m, rfl⟩; refine Hid.out ?_)
      refine Lib.hid ?_
      gi_wp2_with fail
      rw [Exit.noGoto_normal]
      refine bodyPost_end (results_none rfl _ _ _) rfl ?_
      have hd : s.data.toList.drop s.size = [] := List.drop_eq_nil_of_le (by rw [bytes_len]; exact Nat.le_refl _)
      rw [hd, show wordsGo (f + 1) s.size [] = [] from rfl, List.append_nil] at hL
      exact ⟨⟨_, rfl⟩, .inl (hL.out ▸ hJ _ _ _ hJs.out (.inl (grow_drew Wr m none)))⟩
end Go.Proofs.YtbcofimmfbmkoaaDoor
