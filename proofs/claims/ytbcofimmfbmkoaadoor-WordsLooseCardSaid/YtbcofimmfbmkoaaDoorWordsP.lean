/- The walk of the reference's Value, chapter 3. -/
import Derived.Test.YtbcofimmfbmkoaaDoorWordsO
namespace Go.Proofs.YtbcofimmfbmkoaaDoor
open Go.RowKit Go.Shelf Words3

set_option maxHeartbeats 1000000 in
theorem RValue_any (W : World) (v : Value) (at_ : Int) (ws : List Wd) (hw : WordsAt W v ws) (hn : ws.length ≤ 1000000) (key : ByteArray) (hk : key.size ≤ 1000000) :
    Calls Tryd.prog 26 #[.agg #[.int .i64 at_, v], .string key] W fun e w' => e = .returned (.tuple #[.string ⟨(valueF ws key.data.toList).text.toArray⟩, .int .i64 ((valueF ws key.data.toList).err : Int)]) ∧ Below W.heap.size W w' := by
  obtain ⟨ad, c, rfl, hc⟩ := Row.slice hw
  have b1 := Go.Joins.below_alloc1 W (.cells #[.int .i64 at_, .slice ad ws.length c] 39)
  have hr1 := World.alloc_heap_new W (.cells #[.int .i64 at_, .slice ad ws.length c] 39)
  have hw1 := Lib.hid (hw.below b1)
  have HN := Lib.hid (RName_any key hk (W.alloc (.cells #[.int .i64 at_, .slice ad ws.length c] 39)))
  obtain ⟨R, hR⟩ : ∃ R, R = valueF ws key.data.toList := ⟨_, rfl⟩
  rw [← hR]
  go_enter Tryd.func26, Tryd.ntmps26
  go_wp2_with fail
  refine HN.out.mono ?_
  clear HN
  rintro e w1 ⟨rfl, rfl⟩
  generalize World.alloc W _ = W1 at *
  cases hnm : nameB key.data.toList with
  | false =>
    have hv : R = ⟨[], 6⟩ := by rw [hR]; unfold valueF; rw [if_pos hnm]
    clear hR
    subst hv
    go_wp2_with fail
    refine bodyPost_ret (results_tmp2 rfl _ _ _) rfl ?_
    exact ⟨rfl, b1⟩
  | true =>
    have c1 := cell2_1 hr1
    have hv : R = (match ws.filter (fun w => w.key == key.data.toList) with | [] => ⟨[], 8⟩ | [w] => ⟨w.text, 0⟩ | _ => ⟨[], 9⟩) := by rw [hR]; unfold valueF; rw [if_neg (by rw [hnm]; simp)]; rfl
    have HR := Lib.hid hv
    have HB := Lib.hid b1
    clear hR hv hw b1
    go_wp2_with fail
    go_loop [6, 7, 8] (fun f n i => ∃ (k : Nat) (F : ByteArray), i = .int .i64 k ∧ k ≤ ws.length ∧ n = .int .i64 ((ws.take k).filter (fun w => w.key == key.data.toList)).length ∧ f = .string F ∧ Hid (∀ x, (ws.take k).filter (fun w => w.key == key.data.toList) = [x] → F = ⟨x.text.toArray⟩)) (fun _ _ i => ws.length - (intOf i).toNat)
    case atStart => exact ⟨0, _, rfl, Nat.zero_le _, rfl, rfl, Lib.hid (fun x h => by cases h)⟩
    case round =>
      obtain ⟨k, F, rfl, hk', rfl, rfl, hf⟩ := hrel
      rcases Nat.lt_or_ge k ws.length with hlt | hge
      · have hlt' : (k : Int) < ws.length := by omega
        have hx : ws[k]? = some ws[k] := List.getElem?_eq_getElem hlt
        obtain ⟨a, rfl, x0, x1, x2⟩ := hw1.out.word hx
        have hfs := filter_step (fun w => w.key == key.data.toList) ws k hlt
        have hfl : ((ws.take k).filter (fun w => w.key == key.data.toList)).length ≤ ws.length := Nat.le_trans (List.length_filter_le _ _) (by rw [List.length_take]; omega)
        generalize (ws.take k).filter (fun w => w.key == key.data.toList) = l at *
        by_cases hkx : ws[k].key = key.data.toList
        · have hb : (⟨ws[k].key.toArray⟩ : ByteArray) = key := by rw [hkx]
          rw [if_pos (by rw [hkx]; simp)] at hfs
          have HF := Lib.hid hfs
          clear hfs
          go_wp2_with fail
          refine ⟨⟨k + 1, _, rfl, by omega, by rw [HF.out, List.length_append]; simp, rfl, Lib.hid (fun x h => ?_)⟩, by simp only [intOf]; omega⟩
          rw [HF.out] at h
          cases l with
          | nil => simp at h; rw [h]
          | cons y l => simp at h
        · have hkb : (ws[k].key == key.toList) = false := beq_eq_false_iff_ne.2 (fun e => hkx (by rw [e, ByteArray.toList_eq]))
          rw [if_neg (by simpa using hkx), List.append_nil] at hfs
          have HF := Lib.hid hfs
          clear hfs
          go_wp2_with fail
          exact ⟨⟨k + 1, F, rfl, by omega, by rw [HF.out], rfl, Lib.hid (fun x h => hf.out x (by rw [← HF.out]; exact h))⟩, by simp only [intOf]; omega⟩
      · have hks : k = ws.length := by omega
        subst hks
        have hnl : ¬ ws.length < ws.length := by omega
        rw [List.take_length] at hf ⊢
        have hR := HR.out
        clear HR
        generalize ws.filter (fun w => w.key == key.data.toList) = l at *
        match l, hR, hf with
        | [], hR, hf =>
          dsimp only at hR
          subst hR
          go_wp2_with fail
          refine bodyPost_ret (results_tmp2 rfl _ _ _) rfl ?_
          exact ⟨rfl, HB.out⟩
        | [x], hR, hf =>
          dsimp only at hR
          subst hR
          have hF := hf.out x rfl
          subst hF
          go_wp2_with fail
          refine bodyPost_ret (results_tmp2 rfl _ _ _) rfl ?_
          exact ⟨rfl, HB.out⟩
        | x :: y :: l, hR, hf =>
          dsimp only at hR
          subst hR
          have h0 : (((x :: y :: l).length : Int) == 0) = false := by simp; omega
          have h1 : (1 : Int) < (x :: y :: l).length := by simp; omega
          go_wp2_with fail
          refine bodyPost_ret (results_tmp2 rfl _ _ _) rfl ?_
          exact ⟨rfl, HB.out⟩
end Go.Proofs.YtbcofimmfbmkoaaDoor
