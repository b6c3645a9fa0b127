/- The walks of body and Unquote of chapter 3. -/
import Derived.Test.YtbcofimmfbmkoaaDoorWordsG
import Derived.Deep.DeepCutAuto
namespace Go.Proofs.YtbcofimmfbmkoaaDoor
open Go.RowKit Words3

theorem quiet_left {P : Program} {f : FuncId} {args : Array Value} {w : World} {n : Nat} {v : Value}
    (h : Calls P f args (w.drewN n) fun e w' => e = .returned v ∧ w.drewN n = w') : Calls P f args (w.drewN n) fun e w'' => e = .returned v ∧ ∃ m, w'' = w.drewN m :=
  h.mono fun _ _ ⟨he, hm⟩ => ⟨he, n, hm.symm⟩
theorem sub_str (s : ByteArray) (i j : Nat) (h1 : i ≤ j) (h2 : j ≤ s.size) (W : World) : (Instr.slice 9 (.string s) (some (.int .i64 (i : Int))) (some (.int .i64 (j : Int))) none).run Tryd.prog W = .ok (.string ⟨((s.data.toList.drop i).take (j - i)).toArray⟩) W := by
  rw [run_slice_string W _ _ _ _ _ _ Tryd.underlying9 (by omega) (by omega) (by omega), Int.toNat_natCast, Int.toNat_natCast]
  congr 2
  apply ByteArray.ext
  rw [ByteArray.data_extract]
  apply Array.ext'
  simp
theorem getz_get (s : ByteArray) (k : Nat) (h : k < s.size) : s[k] = getz s k := by unfold getz; rw [dif_pos h]
def qBody (q : Option (List UInt8 × List UInt8)) : Body := match q with | some p => ⟨p.1, true, p.2⟩ | none => ⟨[], false, []⟩
/-- What body hands back. -/
def BPost (x : Body) (W : World) (b : Nat) (s : ByteArray) (e : Ending) (w' : World) : Prop :=
  e = .returned (.tuple #[.string ⟨x.text.toArray⟩, .bool x.ok]) ∧ ∃ k', k' ≤ s.size ∧ Sc W b s k' w' ∧ (x.ok = true → k' = posOf s x.rest)
theorem plain_at (s : ByteArray) (k j : Nat) (h1 : k ≤ j) (h2 : j ≤ s.size) (ha : ((s.data.toList.drop k).take (j - k)).all openB = true) (he : ∀ _h : j < s.size, openB (getz s j) = false) : plainLen (s.data.toList.drop k) = j - k := by
  refine tw_eq openB _ _ (by rw [List.length_drop, bytes_len]; omega) (fun h => ?_) (fun i hi hlt => all_take ha i hi hlt)
  rw [List.length_drop, bytes_len] at h
  have e : (s.data.toList.drop k)[j - k]'(by rw [List.length_drop, bytes_len]; omega) = getz s j := by
    rw [List.getElem_drop, ← getz_get s j (by omega)]
    have := get_list s (k + (j - k)) (by omega)
    rw [this]
    congr 1; omega
  rw [e]; exact he (by omega)
theorem all_grow (s : ByteArray) (k j : Nat) (h1 : k ≤ j) (h2 : j < s.size) (ha : ((s.data.toList.drop k).take (j - k)).all openB = true) (ho : openB (getz s j) = true) : ((s.data.toList.drop k).take (j + 1 - k)).all openB = true := by
  have hl : j - k < (s.data.toList.drop k).length := by rw [List.length_drop, bytes_len]; omega
  rw [show j + 1 - k = j - k + 1 by omega, List.take_succ_eq_append_getElem hl, List.all_append, ha]
  have e : (s.data.toList.drop k)[j - k]'hl = getz s j := by
    rw [List.getElem_drop, ← getz_get s j h2]
    have := get_list s (k + (j - k)) (by omega)
    rw [this]
    congr 1; omega
  rw [List.all_cons, e, ho]; rfl

set_option maxHeartbeats 4000000 in
set_option maxRecDepth 100000 in
theorem body_any (W : World) (b k : Nat) (s : ByteArray) (hs : s.size ≤ 100000) (h : Scn W b s k) (hk : k ≤ s.size) (x : Body) (hx : bodyF (s.data.toList.drop k) = x) :
    Calls Tryd.prog 37 #[.pointer (some ⟨b, 0, none⟩)] W fun e w' => BPost x W b s e w' := by
  have c0 := h.c0
  have c1 := h.c1
  have H := Lib.hid h
  by_cases hq : k < s.size ∧ getz s k = 34
  · obtain ⟨hlt, h34⟩ := hq
    have hlt' : (k : Int) < s.size := by omega
    have hk0 : (0 : Int) ≤ (k : Int) := by omega
    have h34n : s[k].toNat = 34 := by rw [getz_get s k hlt, h34]; rfl
    obtain ⟨q, hqe⟩ : ∃ q, quotedL (s.data.toList.drop (k + 1)) = q := ⟨_, rfl⟩
    have hX := Lib.hid (show x = qBody q by
      rw [← hx]; unfold bodyF qBody
      obtain ⟨e1, e2⟩ := head_drop s k hlt
      rw [e1, e2, if_pos (by rw [h34]), hqe]
      cases q <;> rfl)
    have f1 := h.f1
    clear hx h34
    have hqH := Lib.hid hqe
    clear hqe h
    go_enter Tryd.func37, Tryd.ntmps37
    go_wp2_with fail
    go_quiet ((go_at_call 38; exact Calls.quiet_of (more_yes _ b k s (H.out.drewN _) hlt)))
    go_upto_region 3 with (fail)
    have hS1 := set_at (H.out.drewN nq) (k + 1)
    have g1 := grow_trans (grow_drew W nq (some b)) (grown_cell (W.drewN nq) b 1 (.int .i64 ((k + 1 : Nat) : Int)))
    rw [show (((k + 1 : Nat) : Int)) = (k : Int) + 1 by omega] at hS1 g1
    generalize World.setCell _ _ _ = W1 at *
    have HQ := Lib.hid (quoted_any W1 b (k + 1) s hs hS1 hlt q hqH.out)
    have G1 := Lib.hid g1
    clear hS1 g1 c0 c1 f1
    go_wp2_with fail
    refine HQ.out.mono ?_
    rintro e w2 hq2
    cases q with
    | some p =>
      obtain ⟨rfl, s2⟩ := hq2
      have hfin : BPost x W b s (.returned (.tuple #[.string ⟨p.1.toArray⟩, .bool true])) w2 := by
        rw [hX.out]
        exact ⟨rfl, _, Nat.sub_le _ _, ⟨s2.box, grow_trans G1.out s2.grow⟩, fun _ => rfl⟩
      have hfin := Lib.hid hfin
      clear s2
      go_wp2_with fail
      go_ret2
      exact hfin.out
    | none =>
      obtain ⟨k2, hk2, rfl, s2⟩ := hq2
      have hfin : BPost x W b s (.returned (.tuple #[.string ⟨#[]⟩, .bool false])) w2 := by
        rw [hX.out]
        exact ⟨rfl, k2, hk2, ⟨s2.box, grow_trans G1.out s2.grow⟩, fun h => by cases h⟩
      have hfin := Lib.hid hfin
      clear s2
      go_wp2_with fail
      go_ret2
      exact hfin.out
  · have hX := Lib.hid (show x = ⟨(s.data.toList.drop k).take (plainLen (s.data.toList.drop k)), bareB ((s.data.toList.drop k).take (plainLen (s.data.toList.drop k))), (s.data.toList.drop k).drop (plainLen (s.data.toList.drop k))⟩ by
      rw [← hx]; unfold bodyF
      rw [if_neg]
      intro e
      apply hq
      rcases Nat.lt_or_ge k s.size with hlt | hge
      · exact ⟨hlt, Option.some.inj ((head_drop s k hlt).1.symm.trans e)⟩
      · rw [drop_end s k hge] at e; cases e)
    have hk0 : (0 : Int) ≤ (k : Int) := by omega
    clear hx h
    rcases Nat.lt_or_ge k s.size with hlt | hge
    · have hlt' : (k : Int) < s.size := by omega
      have h34 : ((s[k].toNat : Int) == 34) = false := (bne_nat _ 34 (by rw [getz_get s k hlt]; intro e; exact hq ⟨hlt, UInt8.toNat_inj.1 (by show (getz s k).toNat = 34; omega)⟩)).2
      clear hq
      go_enter Tryd.func37, Tryd.ntmps37
      go_wp2_with fail
      go_quiet ((go_at_call 38; exact Calls.quiet_of (more_yes _ b k s (H.out.drewN _) hlt)))
      clear h34
      go_wp2_with fail
      go_loopw [] (fun wr => ∃ j : Nat, k ≤ j ∧ j ≤ s.size ∧ Hid (Scn wr b s j) ∧ Hid (W.grownBy wr (some b)) ∧ Hid (((s.data.toList.drop k).take (j - k)).all openB = true)) (fun wr => s.size - scanAt wr b)
      case atStart => exact ⟨k, Nat.le_refl _, hk, Lib.hid (H.out.drewN nq), Lib.hid (grow_drew W nq (some b)), Lib.hid (by simp)⟩
      case round =>
        obtain ⟨j, hkj, hjs, hS, hG, hall⟩ := hrel
        obtain ⟨Wr, rfl⟩ : ∃ Wr, Wr = wr := ⟨wr, rfl⟩
        have d0 := hS.out.c0
        have d1 := hS.out.c1
        have hms := Lib.hid (scanAt_of hS.out)
        have hj0 : (0 : Int) ≤ (j : Int) := by omega
        rcases Nat.lt_or_ge j s.size with hjlt | hjge
        · have hjlt' : (j : Int) < s.size := by omega
          have HP := Lib.hid (fun W => plain_any s[j] W)
          have hgz := getz_get s j hjlt
          cases ho : openB (getz s j) with
          | true =>
            have hng := Lib.hid (all_grow s k j hkj hjlt hall.out ho)
            have HP := Lib.hid (fun W => show Calls Tryd.prog 51 #[.int .u8 (s[j].toNat : Int)] W fun e w' => e = .returned (.bool true) ∧ W = w' by have := HP.out W; rw [hgz, ho] at this; rw [hgz]; exact this)
            have f1 := hS.out.f1
            clear ho hgz
            go_wp2_with fail
            go_quiet ((first | (go_at_call 38; exact Calls.quiet_of (more_yes _ b j s (hS.out.drewN _) hjlt)) | (go_at_call 51; exact quiet_left (HP.out _))))
            have hS5 := Lib.hid (hS.out.drewN nq)
            have hG5 := Lib.hid (grow_trans hG.out (grow_drew Wr nq (some b)))
            clear d0 d1 c0 c1
            generalize Wr.drewN nq = W5 at *
            have d0 := hS5.out.c0
            have d1 := hS5.out.c1
            have f1 := hS5.out.f1
            have hS7 := Lib.hid (set_at hS5.out (j + 1))
            have hG7 := Lib.hid (grow_trans hG5.out (grown_cell W5 b 1 (.int .i64 ((j + 1 : Nat) : Int))))
            rw [show (((j + 1 : Nat) : Int)) = (j : Int) + 1 by omega] at hS7 hG7
            go_wp2_with fail
            generalize World.setCell _ _ _ = W7 at *
            refine ⟨⟨j + 1, by omega, hjlt, hS7, hG7, hng⟩, ?_⟩
            rw [hms.out, scanAt_of hS7.out]; omega
          | false =>
            have HP := Lib.hid (fun W => show Calls Tryd.prog 51 #[.int .u8 (s[j].toNat : Int)] W fun e w' => e = .returned (.bool false) ∧ W = w' by have := HP.out W; rw [hgz, ho] at this; rw [hgz]; exact this)
            have hoH := Lib.hid ho
            clear ho hgz
            go_wp2_with fail
            go_quiet ((first | (go_at_call 38; exact Calls.quiet_of (more_yes _ b j s (hS.out.drewN _) hjlt)) | (go_at_call 51; exact quiet_left (HP.out _))))
            have hS5 := Lib.hid (hS.out.drewN nq)
            have hG5 := Lib.hid (grow_trans hG.out (grow_drew Wr nq (some b)))
            clear d0 d1 c0 c1
            generalize Wr.drewN nq = W5 at *
            have d0 := hS5.out.c0
            have d1 := hS5.out.c1
            go_wp2_with fail
            have hpl := plain_at s k j hkj hjs hall.out (by exact fun _ => hoH.out)
            have hX2 := Lib.hid (show x = ⟨(s.data.toList.drop k).take (j - k), bareB ((s.data.toList.drop k).take (j - k)), s.data.toList.drop j⟩ by
              rw [hX.out, hpl, List.drop_drop, show k + (j - k) = j by omega])
            have hsub := sub_str s k j hkj hjs
            obtain ⟨Y, hY⟩ : ∃ Y, Y = (s.data.toList.drop k).take (j - k) := ⟨_, rfl⟩
            rw [← hY] at hsub hX2
            have hYl : Y.length ≤ 100000 := by rw [hY, List.length_take, List.length_drop, bytes_len]; omega
            have HB := Lib.hid (fun W => bare_any ⟨Y.toArray⟩ (show Y.length ≤ 1000000 by omega) W)
            clear hY hpl hall
            go_quiet (fail)
            have hS6 := Lib.hid (hS5.out.drewN nq)
            have hG6 := Lib.hid (grow_trans hG5.out (grow_drew W5 nq (some b)))
            generalize W5.drewN nq = W6 at *
            go_wp2_with fail
            refine (HB.out _).mono ?_
            rintro e w3 ⟨rfl, b3⟩
            have hfin : BPost x W b s (.returned (.tuple #[.string ⟨Y.toArray⟩, .bool (bareB Y)])) w3 := by
              rw [hX2.out]
              exact ⟨rfl, j, hjs, ⟨hS6.out.below b3 hS6.out.lt, grow_below hG6.out (b3.mono hG6.out.size)⟩, fun _ => (posOf_drop s j hjs).symm⟩
            have hfin := Lib.hid hfin
            go_wp2_with fail
            go_ret2
            exact hfin.out
        · obtain rfl : j = s.size := by omega
          go_wp2_with fail
          go_quiet ((go_at_call 38; exact Calls.quiet_of (more_no _ b s.size s (hS.out.drewN _) (Nat.le_refl _))))
          have hS5 := Lib.hid (hS.out.drewN nq)
          have hG5 := Lib.hid (grow_trans hG.out (grow_drew Wr nq (some b)))
          clear d0 d1 c0 c1
          generalize Wr.drewN nq = W5 at *
          have d0 := hS5.out.c0
          have d1 := hS5.out.c1
          go_wp2_with fail
          have hpl := plain_at s k s.size hkj hjs hall.out (by exact fun h => absurd h (Nat.lt_irrefl _))
          have hX2 := Lib.hid (show x = ⟨(s.data.toList.drop k).take (s.size - k), bareB ((s.data.toList.drop k).take (s.size - k)), s.data.toList.drop s.size⟩ by
            rw [hX.out, hpl, List.drop_drop, show k + (s.size - k) = s.size by omega])
          have hsub := sub_str s k s.size hkj hjs
          obtain ⟨Y, hY⟩ : ∃ Y, Y = (s.data.toList.drop k).take (s.size - k) := ⟨_, rfl⟩
          rw [← hY] at hsub hX2
          have hYl : Y.length ≤ 100000 := by rw [hY, List.length_take, List.length_drop, bytes_len]; omega
          have HB := Lib.hid (fun W => bare_any ⟨Y.toArray⟩ (show Y.length ≤ 1000000 by omega) W)
          clear hY hpl hall
          go_quiet (fail)
          have hS6 := Lib.hid (hS5.out.drewN nq)
          have hG6 := Lib.hid (grow_trans hG5.out (grow_drew W5 nq (some b)))
          generalize W5.drewN nq = W6 at *
          go_wp2_with fail
          refine (HB.out _).mono ?_
          rintro e w3 ⟨rfl, b3⟩
          have hfin : BPost x W b s (.returned (.tuple #[.string ⟨Y.toArray⟩, .bool (bareB Y)])) w3 := by
            rw [hX2.out]
            exact ⟨rfl, s.size, hjs, ⟨hS6.out.below b3 hS6.out.lt, grow_below hG6.out (b3.mono hG6.out.size)⟩, fun _ => (posOf_drop s s.size hjs).symm⟩
          have hfin := Lib.hid hfin
          go_wp2_with fail
          go_ret2
          exact hfin.out
    · clear hq
      go_enter Tryd.func37, Tryd.ntmps37
      go_wp2_with fail
      go_quiet ((go_at_call 38; exact Calls.quiet_of (more_no _ b k s (H.out.drewN _) hge)))
      go_wp2_with fail
      go_loopw [] (fun wr => ∃ j : Nat, k ≤ j ∧ j ≤ s.size ∧ Hid (Scn wr b s j) ∧ Hid (W.grownBy wr (some b)) ∧ Hid (((s.data.toList.drop k).take (j - k)).all openB = true)) (fun wr => s.size - scanAt wr b)
      case atStart => exact ⟨k, Nat.le_refl _, hk, Lib.hid (H.out.drewN nq), Lib.hid (grow_drew W nq (some b)), Lib.hid (by simp)⟩
      case round =>
        obtain ⟨j, hkj, hjs, hS, hG, hall⟩ := hrel
        obtain ⟨Wr, rfl⟩ : ∃ Wr, Wr = wr := ⟨wr, rfl⟩
        have d0 := hS.out.c0
        have d1 := hS.out.c1
        have hms := Lib.hid (scanAt_of hS.out)
        have hj0 : (0 : Int) ≤ (j : Int) := by omega
        rcases Nat.lt_or_ge j s.size with hjlt | hjge
        · exact absurd hjlt (by omega)
        · obtain rfl : j = s.size := by omega
          go_wp2_with fail
          go_quiet ((go_at_call 38; exact Calls.quiet_of (more_no _ b s.size s (hS.out.drewN _) (Nat.le_refl _))))
          have hS5 := Lib.hid (hS.out.drewN nq)
          have hG5 := Lib.hid (grow_trans hG.out (grow_drew Wr nq (some b)))
          clear d0 d1 c0 c1
          generalize Wr.drewN nq = W5 at *
          have d0 := hS5.out.c0
          have d1 := hS5.out.c1
          go_wp2_with fail
          have hpl := plain_at s k s.size hkj hjs hall.out (by exact fun h => absurd h (Nat.lt_irrefl _))
          have hX2 := Lib.hid (show x = ⟨(s.data.toList.drop k).take (s.size - k), bareB ((s.data.toList.drop k).take (s.size - k)), s.data.toList.drop s.size⟩ by
            rw [hX.out, hpl, List.drop_drop, show k + (s.size - k) = s.size by omega])
          have hsub := sub_str s k s.size hkj hjs
          obtain ⟨Y, hY⟩ : ∃ Y, Y = (s.data.toList.drop k).take (s.size - k) := ⟨_, rfl⟩
          rw [← hY] at hsub hX2
          have hYl : Y.length ≤ 100000 := by rw [hY, List.length_take, List.length_drop, bytes_len]; omega
          have HB := Lib.hid (fun W => bare_any ⟨Y.toArray⟩ (show Y.length ≤ 1000000 by omega) W)
          clear hY hpl hall
          go_quiet (fail)
          have hS6 := Lib.hid (hS5.out.drewN nq)
          have hG6 := Lib.hid (grow_trans hG5.out (grow_drew W5 nq (some b)))
          generalize W5.drewN nq = W6 at *
          go_wp2_with fail
          refine (HB.out _).mono ?_
          rintro e w3 ⟨rfl, b3⟩
          have hfin : BPost x W b s (.returned (.tuple #[.string ⟨Y.toArray⟩, .bool (bareB Y)])) w3 := by
            rw [hX2.out]
            exact ⟨rfl, s.size, hjs, ⟨hS6.out.below b3 hS6.out.lt, grow_below hG6.out (b3.mono hG6.out.size)⟩, fun _ => (posOf_drop s s.size hjs).symm⟩
          have hfin := Lib.hid hfin
          go_wp2_with fail
          go_ret2
          exact hfin.out
end Go.Proofs.YtbcofimmfbmkoaaDoor
