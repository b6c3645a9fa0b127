/- The walk of the document's Get of chapter 10. -/
import Derived.Test.YtcpahelmaejjeaaDoorStuffR
namespace Go.Proofs.YtcpahelmaejjeaaDoor
open Go.RowKit Go.Shelf Stuff10

theorem fault_any (e a : Nat) (w : World) :
    Calls Tryd.prog 35 #[.int .i64 e, .int .i64 a] w fun r w' => r = .returned (.tuple #[.string ⟨#[]⟩, .agg #[.int .i64 e, .int .i64 a]]) ∧ Below w.heap.size w w' := by
  go_enter Tryd.func35, Tryd.ntmps35
  have hr : ResAt (w.alloc (.cells #[.int .i64 e, .int .i64 a] 27)) w.heap.size e a := World.alloc_heap_new w _
  go_wp2
  refine bodyPost_ret (results_tmp_cell rfl _ _ w.heap.size _ _ _ _ rfl hr Tryd.underlying27 rfl (by kernel_rfl)) rfl ?_
  exact ⟨rfl, (Below.refl _ w).alloc (Nat.le_refl _) _⟩

set_option maxHeartbeats 2000000 in
set_option maxRecDepth 100000 in
theorem RGet_any (s : ByteArray) (hs : s.size ≤ 140737488351232) (w : World) :
    Calls Tryd.prog 19 #[.string s] w fun e w' => e = .returned (getV (getS s.data.toList)) ∧ Below w.heap.size w w' := by
  obtain ⟨S, hS⟩ : ∃ S, S = getS s.data.toList := ⟨_, rfl⟩
  rw [← hS]
  have HS := Lib.hid hS; clear hS
  go_enter Tryd.func19, Tryd.ntmps19
  go_wp2
  have hR : ResAt (w.alloc (.cells #[.int .i64 0, .int .i64 0] 27)) w.heap.size 0 0 := World.alloc_heap_new w _
  have hb0 : Below w.heap.size w (w.alloc (.cells #[.int .i64 0, .int .i64 0] 27)) := (Below.refl _ w).alloc (Nat.le_refl _) _
  generalize w.alloc (.cells #[.int .i64 0, .int .i64 0] 27) = W0 at *
  go_loopw [4, 5, 6] (fun o last i wr => ∃ (k L : Nat) (G : Bool) (O : ByteArray) (out : List UInt8), i = .int .i64 k ∧ last = .int .i64 L ∧ o = .string O ∧ k ≤ s.size ∧ L ≤ 255 ∧ O.size ≤ 2 * k + 1 ∧ (L ≤ 254 → G = true) ∧
      O.data.toList = (if L ≤ 254 then out ++ [0] else out) ∧
      Hid (gp (s.data.toList.drop k) k 0 (decide (L = 255)) G out = S) ∧ ResAt wr w.heap.size 0 0 ∧ Below w.heap.size w wr)
    (fun _ _ i _ => s.size - (intOf i).toNat)
  case atStart => exact ⟨0, 255, false, ⟨#[]⟩, [], rfl, rfl, rfl, Nat.zero_le _, by omega, by decide, by omega, rfl, Lib.hid (by rw [HS.out]; rfl), hR, hb0⟩
  case round =>
    obtain ⟨k, L, G, O, out, rfl, rfl, rfl, hk, hL, ho, hG, hO, hgp, hres, hbl⟩ := hrel
    have hsz := hbl.size
    have hrlt : w.heap.size < wr.heap.size := (Array.getElem?_eq_some_iff.1 hres).1
    by_cases hlt : k < s.size
    · have hlt' : decide ((k : Int) < s.size) = true := by simp; omega
      have hdrop : s.data.toList.drop k = s[k] :: s.data.toList.drop (k + 1) := by
        rw [List.drop_eq_getElem_cons (by rw [length_size]; exact hlt)]; rfl
      rw [hdrop] at hgp
      obtain ⟨c, hc⟩ : ∃ c, c = s[k] := ⟨_, rfl⟩
      rw [← hc] at hgp
      have hS := hgp.out
      clear hdrop hgp
      have hc256 : c.toNat < 256 := c.toNat_lt
      have hwr : IntKind.i64.wrap (s[k].toNat : Int) = (s[k].toNat : Int) := by rw [← hc]; exact IntWalk.i64_in _ (by omega)
      by_cases hz : c = 0
      · rw [gp, if_pos hz] at hS
        have hgp := Lib.hid hS
        clear hS
        have hz' : ((s[k].toNat : Int) == 0) = true := by rw [← hc, hz]; rfl
        have HF := Lib.hid (fault_any 3 k wr)
        go_wp2_with fail
        refine HF.out.mono ?_
        rintro e w1 ⟨rfl, hb1⟩
        have hres1 : ResAt w1 w.heap.size 0 0 := (hb1.block _ hrlt).trans hres
        have hbl1 := hbl.trans (hb1.mono hsz)
        have r0 := hres1.c0; have r1 := hres1.c1; have f0 := hres1.f 0; have f1 := hres1.f 1
        go_wp2
        refine bodyPost_ret (results_tmp_cell rfl _ _ w.heap.size _ _ _ _ rfl (hres1.set 3 k) Tryd.underlying27 rfl (by kernel_rfl)) rfl ?_
        refine ⟨?_, (hbl1.setCell (p := ⟨w.heap.size, 0, none⟩) (Nat.le_refl _) _).setCell (p := ⟨w.heap.size, 1, none⟩) (Nat.le_refl _) _⟩
        rw [← hgp.out]; rfl
      · have hz' : ((s[k].toNat : Int) == 0) = false := by
          rw [← hc, beq_eq_false_iff_ne]
          intro e
          exact hz (UInt8.toNat_inj.1 (by simpa using e))
        rw [gp, if_neg hz, if_neg (Nat.lt_irrefl 0)] at hS
        have hcn : 0 < c.toNat := by
          rcases Nat.eq_zero_or_pos c.toNat with e | e
          · exact absurd (UInt8.toNat_inj.1 (by rw [e]; rfl)) hz
          · exact e
        have hout : (if (G && !decide (L = 255)) = true then out ++ [0] else out) = O.data.toList := by
          rw [hO]
          by_cases h : L ≤ 254
          · rw [if_pos h, hG h]; simp; omega
          · rw [if_neg h]; have : L = 255 := by omega
            simp [this]
        rw [hout] at hS
        have hgp := Lib.hid hS
        clear hS hout hO
        obtain ⟨n, hn⟩ : ∃ n, n = c.toNat := ⟨_, rfl⟩
        have hsn : (s[k].toNat : Int) = (n : Int) := by rw [hn, hc]
        rw [hsn] at hz' hwr
        have hn255 : (c == 255) = decide (n = 255) := by
          rw [hn, Bool.eq_iff_iff, beq_iff_eq, decide_eq_true_iff]
          constructor
          · intro e; rw [e]; rfl
          · intro e; exact UInt8.toNat_inj.1 e
        rw [hn255, ← hn] at hgp
        rw [← hn] at hcn hc256
        clear hn hn255 hz
        go_wp2
        go_loopw [4, 6, 7] (fun o i q wr' => ∃ (j m : Nat) (O' : ByteArray), i = .int .i64 j ∧ q = .int .i64 m ∧ o = .string O' ∧ k + 1 ≤ j ∧ j ≤ s.size ∧ 1 ≤ m ∧ m ≤ n ∧ O'.size ≤ 2 * j ∧
            Hid (gp (s.data.toList.drop j) j (n - m) (decide (n = 255)) true O'.data.toList = S) ∧ wr' = wr) (fun _ _ q _ => n - (intOf q).toNat)
        case atStart => exact ⟨k + 1, 1, O, rfl, rfl, rfl, Nat.le_refl _, hlt, Nat.le_refl _, hcn, by omega, hgp, rfl⟩
        case round =>
          clear hgp
          obtain ⟨j, m, O', rfl, rfl, rfl, hj1, hj2, hm1, hm2, hO', hgp, rfl⟩ := hrel
          by_cases hmn : m < n
          · have hmn' : decide ((m : Int) < n) = true := by simp; omega
            have hS := hgp.out
            by_cases hjs : j < s.size
            · have hjs' : ((j : Int) == s.size) = false := by simp; omega
              have hdrop : s.data.toList.drop j = s[j] :: s.data.toList.drop (j + 1) := by
                rw [List.drop_eq_getElem_cons (by rw [length_size]; exact hjs)]; rfl
              rw [hdrop] at hS
              obtain ⟨b, hb⟩ : ∃ b, b = s[j] := ⟨_, rfl⟩
              rw [← hb] at hS
              by_cases hbz : b = 0
              · rw [gp, if_pos hbz] at hS
                have hgp := Lib.hid hS
                have hbz' : ((s[j].toNat : Int) == 0) = true := by rw [← hb, hbz]; rfl
                clear hS hdrop
                have HF := Lib.hid (fault_any 3 j wr)
                go_wp2_with fail
                refine HF.out.mono ?_
                rintro e w1 ⟨rfl, hb1⟩
                have hres1 : ResAt w1 w.heap.size 0 0 := (hb1.block _ hrlt).trans hres
                have hbl1 := hbl.trans (hb1.mono hsz)
                have r0 := hres1.c0; have r1 := hres1.c1; have f0 := hres1.f 0; have f1 := hres1.f 1
                go_wp2
                refine bodyPost_ret (results_tmp_cell rfl _ _ w.heap.size _ _ _ _ rfl (hres1.set 3 j) Tryd.underlying27 rfl (by kernel_rfl)) rfl ?_
                refine ⟨?_, (hbl1.setCell (p := ⟨w.heap.size, 0, none⟩) (Nat.le_refl _) _).setCell (p := ⟨w.heap.size, 1, none⟩) (Nat.le_refl _) _⟩
                rw [← hgp.out]; rfl
              · have hbz' : ((s[j].toNat : Int) == 0) = false := by
                  rw [← hb, beq_eq_false_iff_ne]
                  intro e
                  exact hbz (UInt8.toNat_inj.1 (by simpa using e))
                rw [gp, if_neg hbz, if_pos (by omega)] at hS
                obtain ⟨X, hX⟩ : ∃ X : ByteArray, X = s.extract j (j + 1) := ⟨_, rfl⟩
                have hXl : X.data.toList = [b] := by
                  rw [hX, ByteArray.data_extract, hb]
                  simp only [Array.toList_extract, List.extract_eq_take_drop, Nat.add_sub_cancel_left, hdrop]; rfl
                have hXs : X.size = 1 := by rw [← length_size, hXl]; rfl
                have hsl : ∀ W, (Instr.slice 9 (.string s) (some (.int .i64 (j : Int))) (some (.int .i64 ((j : Int) + 1))) none).run Tryd.prog W = .ok (.string X) W := by
                  intro W
                  have h := run_slice_string (P := Tryd.prog) (w := W) 9 s .i64 .i64 (j : Int) ((j : Int) + 1) Tryd.underlying9 (by omega) (by omega) (by omega)
                  rw [h, hX]; rfl
                have hadd := run_string_add_sum (P := Tryd.prog) (a := O') (b := X) (h := by omega)
                have hXX := Lib.hid hXl
                have hgp := Lib.hid hS
                have hj3 : j + 1 ≤ s.size := hjs
                clear hS hX hXl hdrop
                go_wp2
                refine ⟨⟨j + 1, m + 1, O' ++ X, rfl, rfl, rfl, by omega, hjs, by omega, by omega, by rw [ByteArray.size_append]; omega, ?_, ?_⟩, ?_⟩
                · rw [ByteArray.data_append, Array.toList_append, hXX.out, ← Nat.sub_sub]; exact hgp
                · first | trivial | rfl
                · simp [intOf]; omega
            · obtain rfl : j = s.size := by omega
              rw [List.drop_of_length_le (by rw [length_size]; exact Nat.le_refl _), gp] at hS
              have hS' : ([], 11, s.size) = S := by
                rw [if_neg] at hS
                · exact hS
                · simp; omega
              have hgp := Lib.hid hS'
              clear hS hS'
              have HF := Lib.hid (fault_any 11 s.size wr)
              go_wp2_with fail
              refine HF.out.mono ?_
              rintro e w1 ⟨rfl, hb1⟩
              have hres1 : ResAt w1 w.heap.size 0 0 := (hb1.block _ hrlt).trans hres
              have hbl1 := hbl.trans (hb1.mono hsz)
              have r0 := hres1.c0; have r1 := hres1.c1; have f0 := hres1.f 0; have f1 := hres1.f 1
              go_wp2
              refine bodyPost_ret (results_tmp_cell rfl _ _ w.heap.size _ _ _ _ rfl (hres1.set 11 s.size) Tryd.underlying27 rfl (by kernel_rfl)) rfl ?_
              refine ⟨?_, (hbl1.setCell (p := ⟨w.heap.size, 0, none⟩) (Nat.le_refl _) _).setCell (p := ⟨w.heap.size, 1, none⟩) (Nat.le_refl _) _⟩
              rw [← hgp.out]; rfl
          · obtain rfl : m = n := by omega
            have hmn' : decide ((m : Int) < m) = false := by simp
            have hgp' := hgp.out
            rw [Nat.sub_self] at hgp'
            have hgp2 := Lib.hid hgp'
            clear hgp hgp'
            by_cases hm254 : m ≤ 254
            · have hm' : decide ((m : Int) ≤ 254) = true := by simp; omega
              have hadd := run_string_add_sum (P := Tryd.prog) (a := O') (b := ⟨#[0]⟩) (h := by show O'.size + 1 ≤ _; omega)
              go_wp2
              refine ⟨⟨j, m, true, O' ++ ⟨#[0]⟩, O'.data.toList, rfl, rfl, rfl, hj2, by omega, ?_, fun _ => rfl, ?_, hgp2, hres, hbl⟩, ?_⟩
              · rw [ByteArray.size_append]; show O'.size + 1 ≤ _; omega
              · rw [if_pos hm254, ByteArray.data_append, Array.toList_append]
              · simp [intOf]; omega
            · have hm' : decide ((m : Int) ≤ 254) = false := by simp; omega
              go_wp2
              refine ⟨⟨j, m, true, O', O'.data.toList, rfl, rfl, rfl, hj2, by omega, by omega, fun _ => rfl, by rw [if_neg hm254], hgp2, hres, hbl⟩, ?_⟩
              simp [intOf]; omega
    · obtain rfl : k = s.size := by omega
      have hS := hgp.out
      rw [List.drop_of_length_le (by rw [length_size]; exact Nat.le_refl _), gp] at hS
      have hlt' : decide ((s.size : Int) < s.size) = false := by simp
      clear hgp
      by_cases h254 : L ≤ 254
      · have h1 : decide ((254 : Int) < L) = false := by simp; omega
        rw [if_pos (by rw [hG h254]; simp; omega)] at hS
        rw [if_pos h254] at hO
        have hOs : 1 ≤ O.size := by rw [← length_size, hO]; simp
        have hOx : O.extract 0 (O.size - 1) = ⟨out.toArray⟩ := by
          rw [extract_take, hO]
          have : O.size - 1 = out.length := by rw [← length_size, hO]; simp
          rw [this]; simp
        have hOi : ((O.size : Int) - 1).toNat = O.size - 1 := by omega
        have hgp := Lib.hid hS
        clear hS hO
        have r0 := hres.c0; have r1 := hres.c1; have f0 := hres.f 0; have f1 := hres.f 1
        go_wp2
        refine bodyPost_ret (results_tmp_cell rfl _ _ w.heap.size _ _ _ _ rfl (hres.set 0 0) Tryd.underlying27 rfl (by kernel_rfl)) rfl ?_
        refine ⟨?_, (hbl.setCell (p := ⟨w.heap.size, 0, none⟩) (Nat.le_refl _) _).setCell (p := ⟨w.heap.size, 1, none⟩) (Nat.le_refl _) _⟩
        rw [← hgp.out]; rfl
      · have h1 : decide ((254 : Int) < L) = true := by simp; omega
        have hL255 : L = 255 := by omega
        rw [if_neg (by rw [hL255]; simp)] at hS
        have hgp := Lib.hid hS
        clear hS hO
        have HF := Lib.hid (fault_any 11 s.size wr)
        go_wp2_with fail
        refine HF.out.mono ?_
        rintro e w1 ⟨rfl, hb1⟩
        have hres1 : ResAt w1 w.heap.size 0 0 := (hb1.block _ hrlt).trans hres
        have hbl1 := hbl.trans (hb1.mono hsz)
        have r0 := hres1.c0; have r1 := hres1.c1; have f0 := hres1.f 0; have f1 := hres1.f 1
        go_wp2
        refine bodyPost_ret (results_tmp_cell rfl _ _ w.heap.size _ _ _ _ rfl (hres1.set 11 s.size) Tryd.underlying27 rfl (by kernel_rfl)) rfl ?_
        refine ⟨?_, (hbl1.setCell (p := ⟨w.heap.size, 0, none⟩) (Nat.le_refl _) _).setCell (p := ⟨w.heap.size, 1, none⟩) (Nat.le_refl _) _⟩
        rw [← hgp.out]; rfl
end Go.Proofs.YtcpahelmaejjeaaDoor
