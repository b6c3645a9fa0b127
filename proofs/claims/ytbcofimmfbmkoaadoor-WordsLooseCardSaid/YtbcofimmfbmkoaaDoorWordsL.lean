/- The walks of the library's iterator over the lines of a text, chapter 3. -/
import Derived.Test.YtbcofimmfbmkoaaDoorWordsK
namespace Go.Proofs.YtbcofimmfbmkoaaDoor
open Go.RowKit Go.Shelf Words3

attribute [local go_sem] Oper.semAt_some

def lenc (x : List UInt8) : Array Value := #[.string ⟨x.toArray⟩]
/-- Between two rounds: new blocks, or a store into the cell that holds what is left of the text. -/
def TurnL (c : Nat) (X Y : World) : Prop := X.grownBy Y none ∨ (X.grownBy Y (some c) ∧ ∃ v, X.heap[c]? = some (.cells #[v] 9 (0, 0)))
def KeepL (c : Nat) (X Y : World) : Prop := ∀ v t f, X.heap[c]? = some (.cells v t f) → Y.heap[c]? = some (.cells v t f)
def IsL (c1 c3 : Nat) (W : World) : Prop := W.heap[c1]? = some (.cells #[.string ⟨#[10]⟩] 9 (0, 0)) ∧ W.heap[c3]? = some (.cells #[.int .i64 0] 3 (0, 0))
theorem turnL_cells (c : Nat) : TCells (TurnL c) := by
  rintro X Y k o (h | ⟨h, v, hv⟩) ho hn
  · exact (h.block k (Array.getElem?_eq_some_iff.1 ho).1 (by simp)).trans ho
  · refine (h.block k (Array.getElem?_eq_some_iff.1 ho).1 (fun e => ?_)).trans ho
    obtain rfl := Option.some.inj e
    rw [hv] at ho
    cases ho; cases hn
theorem splitSeq_any (n : Nat) (s t : ByteArray) (k : Int) (w : World) :
    CallsIn Fence.wide n Tryd.prog 46 #[.string s, .string t, .int .i64 k] w fun e w' => e = .returned (.func (.func 56) #[] #[.pointer (some ⟨w.heap.size + 1, 0, none⟩), .pointer (some ⟨w.heap.size, 0, none⟩), .pointer (some ⟨w.heap.size + 2, 0, none⟩)]) ∧
      w' = ((w.alloc (.cells #[.string s] 9)).alloc (.cells #[.string t] 9)).alloc (.cells #[.int .i64 k] 3) := by
  refine callsIn_of_wp Tryd.func46 rfl trivial ?_ rfl
  simp only [Tryd.ntmps46, List.size_toArray, List.length_cons, List.length_nil, Nat.reduceAdd, Nat.reduceSub, Array.replicate_succ, Array.replicate_zero, List.push_toArray, List.append_toArray, List.nil_append, List.cons_append]
  gi_wp2_with fail
  go_ret
  exact ⟨rfl, rfl⟩
theorem SplitSeq_any (n : Nat) (s t : ByteArray) (w : World) :
    CallsIn Fence.wide n Tryd.prog 34 #[.string s, .string t] w fun e w' => e = .returned (.func (.func 56) #[] #[.pointer (some ⟨w.heap.size + 1, 0, none⟩), .pointer (some ⟨w.heap.size, 0, none⟩), .pointer (some ⟨w.heap.size + 2, 0, none⟩)]) ∧
      w' = ((w.alloc (.cells #[.string s] 9)).alloc (.cells #[.string t] 9)).alloc (.cells #[.int .i64 0] 3) := by
  refine callsIn_of_wp Tryd.func34 rfl trivial ?_ rfl
  simp only [Tryd.ntmps34, List.size_toArray, List.length_cons, List.length_nil, Nat.reduceAdd, Nat.reduceSub, Array.replicate_succ, Array.replicate_zero, List.push_toArray, List.append_toArray, List.nil_append, List.cons_append]
  gi_wp2_with fail
  refine ⟨trivial, fun h => (by cases h), ?_⟩
  gi_at_call 46
  refine (splitSeq_any _ s t 0 w).mono ?_
  rintro e w' ⟨rfl, rfl⟩
  gi_wp2_with fail
  go_ret
  exact ⟨rfl, rfl⟩
theorem linesGo_z (f : Nat) (l : List UInt8) : linesGo (f + 1) l = if idx 10 l < l.length then l.take (idx 10 l) :: linesGo f (l.drop (idx 10 l + 1)) else [l] := rfl
def leftAt (w : World) (c : Nat) : Nat := match w.cell? ⟨c, 0, none⟩ with | some (.string s) => s.size | _ => 0
theorem leftAt_of {w : World} {c : Nat} {s : ByteArray} (h : w.heap[c]? = some (.cells #[.string s] 9 (0, 0))) : leftAt w c = s.size := by unfold leftAt; rw [cell1 h]
theorem ext_take (s : ByteArray) (j : Nat) (_h : j ≤ s.size) : s.extract 0 j = ⟨(s.data.toList.take j).toArray⟩ := by
  apply ByteArray.ext
  rw [ByteArray.data_extract]
  apply Array.ext'
  simp
theorem ext_drop (s : ByteArray) (j : Nat) (_h : j ≤ s.size) : s.extract j s.size = ⟨(s.data.toList.drop j).toArray⟩ := by
  apply ByteArray.ext
  rw [ByteArray.data_extract]
  apply Array.ext'
  simp
  exact List.take_of_length_le (by rw [List.length_drop, bytes_len]; exact Nat.le_refl _)
set_option maxHeartbeats 4000000 in
set_option maxRecDepth 100000 in
theorem lines1_any (n c1 c2 c3 : Nat) (s : ByteArray) (hs : s.size ≤ 100000) (W : World) (hc : W.heap[c2]? = some (.cells #[.string s] 9 (0, 0))) (L : List (List UInt8)) (hL0 : L = linesF s.data.toList) :
    SeqG Fence.wide n Tryd.prog 56 #[.pointer (some ⟨c1, 0, none⟩), .pointer (some ⟨c2, 0, none⟩), .pointer (some ⟨c3, 0, none⟩)] lenc (TurnL c2) (IsL c1 c3) (KeepL c2) L W := by
  intro l J Jx hJ hJx hK hY h0
  obtain ⟨hk1, hk3⟩ := hK _ _ h0
  have c0 := cell1 hk1
  have hLh := Lib.hid (show L = linesGo (s.size + 1) s.data.toList by rw [hL0]; unfold linesF; rw [bytes_len])
  clear hL0 hk1 hk3
  refine callsIn_of_wp Tryd.func56 rfl trivial ?_ rfl
  simp only [Tryd.ntmps56, List.size_toArray, List.length_cons, List.length_nil, Nat.reduceAdd, Nat.reduceSub, Array.replicate_succ, Array.replicate_zero, List.push_toArray, List.append_toArray, List.nil_append, List.cons_append]
  gi_wp2_with fail
  gi_loopw [] (fun wr => ∃ (pre : List (List UInt8)) (r : ByteArray) (f : Nat), Hid (L = pre ++ linesGo f r.data.toList) ∧ r.size < f ∧ r.size ≤ 100000 ∧ Hid (wr.heap[c2]? = some (.cells #[.string r] 9 (0, 0))) ∧ Hid (J pre wr)) (fun wr => leftAt wr c2)
  case atStart => exact ⟨[], s, s.size + 1, Lib.hid hLh.out, by omega, hs, Lib.hid hc, Lib.hid h0⟩
  case round =>
    clear hLh h0 hc c0
    obtain ⟨pre, r, f, hL, hf, hr, hC, hJs⟩ := hrel
    obtain ⟨Wr, rfl⟩ : ∃ Wr, Wr = wr := ⟨wr, rfl⟩
    obtain ⟨f, rfl⟩ : ∃ f', f = f' + 1 := ⟨f - 1, by omega⟩
    have hms := Lib.hid (leftAt_of hC.out)
    obtain ⟨hk1, hk3⟩ := hK _ _ hJs.out
    have c0 := cell1 hk1
    have c2' := cell1 hC.out
    have c3' := cell1 hk3
    have HI := (callsIn_wide (n := n - 1)).2 (Tryd.strings_Index_one r 10 Wr)
    rw [indexByte_idx, bytes_len] at HI
    have hz := linesGo_z f r.data.toList
    rw [bytes_len] at hz
    rw [hz] at hL
    have hile := idx_le 10 r.data.toList
    rw [bytes_len] at hile
    generalize hi : idx 10 r.data.toList = i at *
    clear hz hk1 hk3
    rcases Nat.lt_or_ge i r.size with hlt | hge
    · rw [if_pos hlt] at hL HI
      have HI := Lib.hid HI
      gi_wp2_with (refine ⟨trivial, fun h => (by cases h), ?_⟩; gi_at_call 58; refine HI.out.mono ?_; clear HI; rintro e w1 ⟨rfl, rfl⟩; refine Hid.out ?_)
      refine Lib.hid ?_
      obtain ⟨fn, tmps, assign, body, hy, hR⟩ := hY _ _ _ _ hL.out hJs.out
      unfold lenc at hy
      rw [← ext_take r i hile] at hy
      have HR := Lib.hid hR
      clear hR
      gi_wp2_with fail
      refine ⟨fun h => (by cases h), ?_⟩
      refine HR.out.mono ?_
      rintro e W3 (⟨rfl, hJ3, hk3⟩ | ⟨rfl, hJx3⟩)
      · have HC3 := Lib.hid (hk3 _ _ _ hC.out)
        obtain ⟨hk1, hk3'⟩ := hK _ _ hJ3
        have d0 := cell1 hk1
        have d2 := cell1 HC3.out
        have g2 := frozen1 HC3.out
        have HJ3 := Lib.hid hJ3
        clear hJ3 hk3 hk1 hk3' c0 c2' c3'
        gi_wp2_with fail
        rw [ext_drop r (i + 1) hlt]
        have hC4 : (W3.setCell ⟨c2, 0, none⟩ (.string ⟨(r.data.toList.drop (i + 1)).toArray⟩)).heap[c2]? = some (.cells #[.string ⟨(r.data.toList.drop (i + 1)).toArray⟩] 9 (0, 0)) := Lib.heap_setCell_same (i := 0) HC3.out _
        have hz4 : (⟨(r.data.toList.drop (i + 1)).toArray⟩ : ByteArray).size = r.size - (i + 1) := by
          show (r.data.toList.drop (i + 1)).length = _
          rw [List.length_drop, bytes_len]
        refine ⟨⟨_, _, f, Lib.hid (by rw [hL.out, List.append_assoc]; rfl), by rw [hz4]; omega, by rw [hz4]; omega, Lib.hid hC4, Lib.hid (hJ _ _ _ HJ3.out (.inr ⟨grown_cell _ c2 0 _, _, HC3.out⟩))⟩, ?_⟩
        rw [leftAt_of hC4, hms.out, hz4]; omega
      · gi_wp2_with fail
        refine bodyPost_ret (results_none rfl _ _ _) rfl ?_
        exact ⟨⟨_, rfl⟩, .inr ⟨_, by rw [hL.out]; exact ⟨_, by rw [List.append_assoc]; rfl⟩, hJx3⟩⟩
    · rw [if_neg (by omega)] at hL HI
      have HI := Lib.hid HI
      gi_wp2_with (refine ⟨trivial, fun h => (by cases h), ?_⟩; gi_at_call 58; refine HI.out.mono ?_; clear HI; rintro e w1 ⟨rfl, rfl⟩; refine Hid.out ?_)
      refine Lib.hid ?_
      obtain ⟨fn, tmps, assign, body, hy, hR⟩ := hY _ _ _ _ hL.out hJs.out
      unfold lenc at hy
      rw [show (⟨r.data.toList.toArray⟩ : ByteArray) = r from rfl] at hy
      have HR := Lib.hid hR
      clear hR
      gi_wp2_with fail
      refine ⟨fun h => (by cases h), ?_⟩
      refine HR.out.mono ?_
      rintro e W3 (⟨rfl, hJ3, hk3⟩ | ⟨rfl, hJx3⟩)
      · gi_wp2_with fail
        refine bodyPost_end (results_none rfl _ _ _) rfl ?_
        exact ⟨⟨_, rfl⟩, .inl (hL.out ▸ hJ3)⟩
      · gi_wp2_with fail
        refine bodyPost_end (results_none rfl _ _ _) rfl ?_
        exact ⟨⟨_, rfl⟩, .inr ⟨_, by rw [hL.out]; exact List.prefix_refl _, hJx3⟩⟩
end Go.Proofs.YtbcofimmfbmkoaaDoor
