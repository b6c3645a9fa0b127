/- The walks of the reference's parts and Split, chapter 10 (stuff). -/
import Derived.Test.YtcpahelmaejjeaaDoorStuffF
namespace Go.Proofs.YtcpahelmaejjeaaDoor
open Go.RowKit Go.Shelf Stuff10

attribute [local go_sem] Oper.semAt_some

set_option maxHeartbeats 4000000 in
set_option maxRecDepth 100000 in
theorem rparts_any (s : ByteArray) (hs : s.size ≤ 4398046511000) (w : World) :
    Calls Tryd.prog 37 #[.string s] w fun e w' => ∃ v, e = .returned (.tuple #[v, .int .i64 (splitS s.data.toList).1.2, .string ⟨(splitS s.data.toList).2.toArray⟩]) ∧ Txt w' w.heap.size v (splitS s.data.toList).1.1 ∧ Below w.heap.size w w' := by
  obtain ⟨r, hr⟩ : ∃ r, r = splitS s.data.toList := ⟨_, rfl⟩
  rw [← hr]
  have HR := Lib.hid hr; clear hr
  go_enter Tryd.func37, Tryd.ntmps37
  go_wp2
  go_loopw [5, 6, 7, 8] (fun v g fr i wr => ∃ (a : List (List UInt8) × Nat) (f k : Nat), g = .int .i64 a.2 ∧ fr = .int .i64 f ∧ i = .int .i64 k ∧ f ≤ k ∧ k ≤ s.size ∧ a.1.length + a.2 ≤ f ∧
      Hid (splitG (s.data.toList.drop f) a = r) ∧ Hid (((s.data.toList.drop f).take (k - f)).all (fun b => b != 0) = true) ∧ Txt wr w.heap.size v a.1 ∧ Below w.heap.size w wr)
    (fun _ _ _ i _ => s.size - (intOf i).toNat)
  case atStart => exact ⟨([], 0), 0, 0, rfl, rfl, rfl, Nat.le_refl _, Nat.zero_le _, Nat.le_refl _, Lib.hid (by rw [HR.out]; rfl), Lib.hid rfl, Txt.nil _ _, Below.refl _ _⟩
  case round =>
    obtain ⟨a, f, k, rfl, rfl, rfl, hfk, hks, hcnt, hsp, hnz, htx, hbl⟩ := hrel
    by_cases hlt : k < s.size
    · have hlt' : decide ((k : Int) < s.size) = true := by simp; omega
      have hat : (s.data.toList.drop f)[k - f]? = some s[k] := by
        rw [List.getElem?_drop, show f + (k - f) = k by omega, List.getElem?_eq_getElem (by rw [length_size]; exact hlt)]; rfl
      by_cases hz : s[k] = 0
      · have hz' : ((s[k].toNat : Int) != 0) = false := by rw [hz]; rfl
        rw [hz] at hat
        have hsp2 := splitG_zero a hnz.out hat
        rw [hsp.out] at hsp2
        rw [List.drop_drop, show f + (k - f + 1) = k + 1 by omega] at hsp2
        clear hat hz hsp hnz
        by_cases hkf : f < k
        · have hkf' : decide ((f : Int) < k) = true := by simp; omega
          obtain ⟨X, hX⟩ : ∃ X : ByteArray, X = s.extract f k := ⟨_, rfl⟩
          have hXl : X.data.toList = (s.data.toList.drop f).take (k - f) := by
            rw [hX, ByteArray.data_extract, Array.toList_extract, List.extract_eq_take_drop]
          have hXs : X.size = k - f := by rw [← length_size, hXl, List.length_take, List.length_drop, length_size]; omega
          have hsl : ∀ W, (Instr.slice 9 (.string s) (some (.int .i64 (f : Int))) (some (.int .i64 (k : Int))) none).run Tryd.prog W = .ok (.string X) W := by
            intro W
            have h := run_slice_string (P := Tryd.prog) (w := W) 9 s .i64 .i64 (f : Int) (k : Int) Tryd.underlying9 (by omega) (by omega) (by omega)
            rw [h, hX]; rfl
          have hget := RGet_any X (by omega) wr
          rw [← hXl] at hsp2
          have hne : X.data.toList ≠ [] := by
            intro e
            have := congrArg List.length e
            rw [length_size, hXs] at this
            simp at this; omega
          unfold found at hsp2
          rw [if_neg hne, length_size, hXs] at hsp2
          obtain ⟨S, hS⟩ : ∃ S, S = getS X.data.toList := ⟨_, rfl⟩
          rw [← hS] at hsp2 hget
          clear hX hXl hne hS
          have hG := Lib.hid hget
          clear hget
          by_cases hok : 1300 < k - f ∨ S.2.1 ≠ 0
          · rw [if_pos hok] at hsp2
            have hsp := Lib.hid hsp2
            have hend : ∀ W, Below w.heap.size w W → Txt W w.heap.size u5 a.1 → (∃ (a1 : List (List UInt8) × Nat) (f1 k1 : Nat), Value.int .i64 ((a.2 : Int) + 1) = .int .i64 a1.2 ∧ Value.int .i64 ((k : Int) + 1) = .int .i64 f1 ∧ Value.int .i64 ((k : Int) + 1) = .int .i64 k1 ∧ f1 ≤ k1 ∧ k1 ≤ s.size ∧ a1.1.length + a1.2 ≤ f1 ∧
                Hid (splitG (s.data.toList.drop f1) a1 = r) ∧ Hid (((s.data.toList.drop f1).take (k1 - f1)).all (fun b => b != 0) = true) ∧ Txt W w.heap.size u5 a1.1 ∧ Below w.heap.size w W) ∧
                s.size - (intOf (Value.int IntKind.i64 ((k : Int) + 1))).toNat < s.size - (intOf (Value.int IntKind.i64 (k : Int))).toNat := by
              intro W hb ht
              refine ⟨⟨(a.1, a.2 + 1), k + 1, k + 1, rfl, rfl, rfl, Nat.le_refl _, hlt, by show a.1.length + (a.2 + 1) ≤ _; omega, Lib.hid hsp.out.symm, Lib.hid (by rw [Nat.sub_self]; rfl), ht, hb⟩, by simp [intOf]; omega⟩
            clear hsp2
            by_cases h13 : 1300 < k - f
            · have h1 : decide ((k : Int) - (f : Int) ≤ 1300) = false := by simp; omega
              clear hok h13
              have hHend := Lib.hid hend
              clear hend
              go_wp2_with fail
              refine hG.out.mono ?_
              rintro e w1 ⟨rfl, hb1⟩
              unfold getV
              go_wp2
              exact hHend.out _ ((hbl.trans (hb1.mono hbl.size)).alloc (Nat.le_trans hbl.size hb1.size) _) ((htx.below hb1).alloc _)
            · have h1 : decide ((k : Int) - (f : Int) ≤ 1300) = true := by simp; omega
              have h2 : ((S.2.1 : Int) == 0) = false := by simp; omega
              clear hok h13
              have hHend := Lib.hid hend
              clear hend
              go_wp2_with fail
              refine hG.out.mono ?_
              rintro e w1 ⟨rfl, hb1⟩
              unfold getV
              go_wp2
              exact hHend.out _ ((hbl.trans (hb1.mono hbl.size)).alloc (Nat.le_trans hbl.size hb1.size) _) ((htx.below hb1).alloc _)
          · rw [if_neg hok] at hsp2
            have h1 : decide ((k : Int) - (f : Int) ≤ 1300) = true := by simp; omega
            have h2 : ((S.2.1 : Int) == 0) = true := by simp; omega
            have hsp := Lib.hid hsp2
            clear hsp2 hok
            go_wp2_with fail
            refine hG.out.mono ?_
            rintro e w1 ⟨rfl, hb1⟩
            unfold getV
            have hbl1 := (hbl.trans (hb1.mono hbl.size)).alloc (Nat.le_trans hbl.size hb1.size) (.cells #[.int .i64 S.2.1, .int .i64 S.2.2] 27)
            have htx1 := (htx.below hb1).alloc (.cells #[.int .i64 S.2.1, .int .i64 S.2.2] 27)
            go_wp2_with (at_builtin; refine app_str (n := S.1) rfl rfl w.heap.size rfl htx1 (by simp [go_sem]) (by omega) hbl1.size ?_; intro g cap w2 ht2 hb2 hg2 hgr)
            all_goals go_wp2
            refine ⟨⟨(a.1 ++ [S.1], a.2), k + 1, k + 1, rfl, rfl, rfl, Nat.le_refl _, hlt, by show (a.1 ++ [S.1]).length + a.2 ≤ _; simp; omega, Lib.hid hsp.out.symm, Lib.hid (by rw [Nat.sub_self]; rfl), ht2, hbl1.trans hb2⟩, by simp [intOf]; omega⟩
        · obtain rfl : f = k := by omega
          have hkf' : decide ((f : Int) < f) = false := by simp
          rw [Nat.sub_self, List.take_zero] at hsp2
          unfold found at hsp2
          rw [if_pos rfl] at hsp2
          have hsp := Lib.hid hsp2
          clear hsp2
          go_wp2
          exact ⟨⟨a, f + 1, f + 1, rfl, rfl, rfl, Nat.le_refl _, hlt, by omega, Lib.hid hsp.out.symm, Lib.hid (by rw [Nat.sub_self]; rfl), htx, hbl⟩, by simp [intOf]; omega⟩
      · have hz' : ((s[k].toNat : Int) != 0) = true := by
          rw [bne_iff_ne]
          intro e
          exact hz (UInt8.toNat_inj.1 (by simpa using e))
        have hnz2 : ((s.data.toList.drop f).take (k + 1 - f)).all (fun b => b != 0) = true := by
          rw [show k + 1 - f = k - f + 1 by omega, List.take_add_one, hat]
          simp only [List.all_append, hnz.out, Option.toList, List.all_cons, List.all_nil, Bool.and_true, Bool.true_and, bne_iff_ne]
          exact hz
        have hHn := Lib.hid hnz2
        clear hnz2 hat hz
        go_wp2
        exact ⟨⟨a, f, k + 1, rfl, rfl, rfl, by omega, hlt, hcnt, hsp, hHn, htx, hbl⟩, by simp [intOf]; omega⟩
    · obtain rfl : k = s.size := by omega
      have hlt' : decide ((s.size : Int) < s.size) = false := by simp
      have hn := hnz.out
      rw [List.take_of_length_le (by rw [List.length_drop, length_size]; omega)] at hn
      have hsp2 := hsp.out
      rw [splitG_none a hn] at hsp2
      subst hsp2
      have hsl : ∀ W, (Instr.slice 9 (.string s) (some (.int .i64 (f : Int))) none none).run Tryd.prog W = .ok (.string ⟨(s.data.toList.drop f).toArray⟩) W := by
        intro W
        have h := run_slice_string_l (P := Tryd.prog) (w := W) 9 s Tryd.underlying9 .i64 (f : Int) (by omega) (by omega)
        rw [h]
        congr 2
        apply ByteArray.ext
        rw [ByteArray.data_extract]
        apply Array.ext'
        rw [Array.toList_extract, List.extract_eq_take_drop, List.take_of_length_le (by rw [List.length_drop, length_size]; omega)]
        rfl
      clear hn hnz hsp HR
      obtain ⟨ad, c, rfl⟩ := htx.slice
      go_wp2
      go_region
      go_wp2
      refine bodyPost_ret (results_tmp3' rfl _ _ _) rfl ⟨_, rfl, htx.drew, hbl.drew⟩
end Go.Proofs.YtcpahelmaejjeaaDoor
