/- The walk of quoted of chapter 3. -/
import Derived.Test.YtbcofimmfbmkoaaDoorWordsF
namespace Go.Proofs.YtbcofimmfbmkoaaDoor
open Go.RowKit Words3

theorem head_drop (s : ByteArray) (k : Nat) (h : k < s.size) : (s.data.toList.drop k).head? = some (getz s k) ∧ (s.data.toList.drop k).drop 1 = s.data.toList.drop (k + 1) := by
  rw [drop_getz s k h]; exact ⟨rfl, rfl⟩
theorem qGo_quote (s : ByteArray) (k f : Nat) (acc : List UInt8) (h : k < s.size) (hc : getz s k = 34) : qGo (f + 1) acc (s.data.toList.drop k) = some (acc, s.data.toList.drop (k + 1)) := by
  unfold qGo
  obtain ⟨e1, e2⟩ := head_drop s k h
  rw [e1, e2, if_pos (by rw [hc])]
theorem pieceL_drop (s : ByteArray) (k : Nat) (h : k < s.size) : pieceL (s.data.toList.drop k) = if getz s k < 32 ∨ 126 < getz s k ∨ getz s k = 34 then (0, 0) else if getz s k ≠ 92 then (getz s k, 1) else if (escZ s (k + 1)).2 = 0 then (0, 0) else ((escZ s (k + 1)).1, (escZ s (k + 1)).2 + 1) := by
  rw [← escL_z, drop_getz s k h]; rfl
theorem qGo_else (s : ByteArray) (k f : Nat) (acc : List UInt8) (h : k < s.size) (hc : getz s k ≠ 34) : qGo (f + 1) acc (s.data.toList.drop k) = if (pieceL (s.data.toList.drop k)).2 = 0 then none else qGo f (acc ++ [(pieceL (s.data.toList.drop k)).1]) (s.data.toList.drop (k + (pieceL (s.data.toList.drop k)).2)) := by
  conv => lhs; unfold qGo
  obtain ⟨e1, e2⟩ := head_drop s k h
  rw [e1, if_neg (by intro e; exact hc (Option.some.inj e)), List.drop_drop]
theorem qGo_esc (s : ByteArray) (k f : Nat) (acc : List UInt8) (h : k < s.size) (hc : getz s k = 92) : qGo (f + 1) acc (s.data.toList.drop k) = if (escZ s (k + 1)).2 = 0 then none else qGo f (acc ++ [(escZ s (k + 1)).1]) (s.data.toList.drop (k + 1 + (escZ s (k + 1)).2)) := by
  have hp : pieceL (s.data.toList.drop k) = if (escZ s (k + 1)).2 = 0 then (0, 0) else ((escZ s (k + 1)).1, (escZ s (k + 1)).2 + 1) := by
    rw [pieceL_drop s k h, hc]; rfl
  rw [qGo_else s k f acc h (by rw [hc]; decide), hp]
  by_cases h0 : (escZ s (k + 1)).2 = 0
  · simp only [if_pos h0]; rfl
  · simp only [if_neg h0]
    rw [if_neg (by omega), Nat.add_assoc, Nat.add_comm 1]
theorem qGo_plain (s : ByteArray) (k f : Nat) (acc : List UInt8) (h : k < s.size) (h1 : 32 ≤ (getz s k).toNat) (h2 : (getz s k).toNat < 127) (h3 : (getz s k).toNat ≠ 34) (h4 : (getz s k).toNat ≠ 92) : qGo (f + 1) acc (s.data.toList.drop k) = qGo f (acc ++ [getz s k]) (s.data.toList.drop (k + 1)) := by
  have n3 : getz s k ≠ 34 := fun e => h3 (by rw [e]; rfl)
  have n4 : getz s k ≠ 92 := fun e => h4 (by rw [e]; rfl)
  have n5 : ¬ (getz s k < 32 ∨ 126 < getz s k ∨ getz s k = 34) := by
    rw [UInt8.lt_iff_toNat_lt, UInt8.lt_iff_toNat_lt]
    have e1 : (32 : UInt8).toNat = 32 := rfl
    have e2 : (126 : UInt8).toNat = 126 := rfl
    rintro (h | h | h)
    · omega
    · omega
    · exact n3 h
  rw [qGo_else s k f acc h n3, pieceL_drop s k h, if_neg n5, if_pos n4]
  rfl
theorem qGo_bad (s : ByteArray) (k f : Nat) (acc : List UInt8) (h : k < s.size) (h1 : (getz s k).toNat < 32 ∨ 127 ≤ (getz s k).toNat) : qGo (f + 1) acc (s.data.toList.drop k) = none := by
  have e1 : (32 : UInt8).toNat = 32 := rfl
  have e2 : (126 : UInt8).toNat = 126 := rfl
  have n3 : getz s k ≠ 34 := fun e => by rw [e] at h1; revert h1; decide
  have n5 : getz s k < 32 ∨ 126 < getz s k ∨ getz s k = 34 := by
    rcases h1 with h1 | h1
    · left; rw [UInt8.lt_iff_toNat_lt]; omega
    · right; left; rw [UInt8.lt_iff_toNat_lt]; omega
  rw [qGo_else s k f acc h n3, pieceL_drop s k h, if_pos n5]
  rfl
theorem qGo_end (s : ByteArray) (k f : Nat) (acc : List UInt8) (h : s.size ≤ k) : qGo (f + 1) acc (s.data.toList.drop k) = none := by
  rw [drop_end s k h]; rfl
theorem bld_grown {B b : Nat} {l : List UInt8} {W W' : World} {d : Nat} (h : Bld B b l W) (hg : W.grownBy W' (some d)) (hd : d < B) : Bld B b l W' := by
  have hk : ∀ {p : Value}, Lib.BuilderAt 74 5 B b p (Lib.byteCells l) W → Lib.BuilderAt 74 5 B b p (Lib.byteCells l) W' := by
    rintro p ⟨h1, v, h2, h3, h4⟩
    refine ⟨h1, v, (hg.block _ (Array.getElem?_eq_some_iff.1 h2).1 (fun e => by have := Option.some.inj e; omega)).trans h2, h3.kept hg (.inr fun e => ?_), h4⟩
    have := h3.lt d e
    omega
  rcases h with h | h
  · exact .inl (hk h)
  · exact .inr (hk h)
theorem Scn.below {W W' : World} {b k B : Nat} {s : ByteArray} (h : Scn W b s k) (hb : Below B W W') (hl : b < B) : Scn W' b s k := (hb.block b hl).trans h
def posOf (s : ByteArray) (r : List UInt8) : Nat := s.size - r.length
theorem posOf_drop (s : ByteArray) (k : Nat) (h : k ≤ s.size) : posOf s (s.data.toList.drop k) = k := by
  unfold posOf; rw [List.length_drop, bytes_len]; omega
/-- What quoted hands back. -/
def QPost (q : Option (List UInt8 × List UInt8)) (W : World) (b : Nat) (s : ByteArray) (e : Ending) (w' : World) : Prop :=
  match q with
  | some p => e = .returned (.tuple #[.string ⟨p.1.toArray⟩, .bool true]) ∧ Sc W b s (posOf s p.2) w'
  | none => ∃ k', k' ≤ s.size ∧ e = .returned (.tuple #[.string ⟨#[]⟩, .bool false]) ∧ Sc W b s k' w'
def scanAt (w : World) (b : Nat) : Nat := match w.cell? ⟨b, 1, none⟩ with | some v => (intOf v).toNat | none => 0
theorem scanAt_of {w : World} {b k : Nat} {s : ByteArray} (h : Scn w b s k) : scanAt w b = k := by unfold scanAt; rw [h.c1]; simp [intOf]

set_option maxHeartbeats 4000000 in
set_option maxRecDepth 100000 in
theorem quoted_any (W : World) (b k : Nat) (s : ByteArray) (hs : s.size ≤ 100000) (h : Scn W b s k) (hk : k ≤ s.size) (q : Option (List UInt8 × List UInt8)) (hq : quotedL (s.data.toList.drop k) = q) :
    Calls Tryd.prog 50 #[.pointer (some ⟨b, 0, none⟩)] W fun e w' => QPost q W b s e w' := by
  have hQ : Hid (qGo (s.size - k + 1) [] (s.data.toList.drop k) = q) := by
    unfold quotedL at hq
    rw [List.length_drop, bytes_len] at hq
    exact Lib.hid hq
  clear hq
  have hbW := h.lt
  have HN := Lib.hid (Bld.fresh W)
  have hnb := Lib.hid (Go.Joins.below_alloc1 W (.cells #[.pointer none, .slice none 0 0] 74))
  go_enter Tryd.func50, Tryd.ntmps50
  go_wp2_with fail
  have h0 := h.below hnb.out hbW
  have B0 := HN.out
  have G0 := grow_of_below (r := some b) hnb.out
  have hz0 : W.heap.size ≤ (W.alloc (.cells #[.pointer none, .slice none 0 0] 74)).heap.size := hnb.out.size
  clear HN hnb h
  generalize W.alloc _ = W0 at *
  obtain ⟨Bb, hBb⟩ : ∃ B, B = W.heap.size := ⟨_, rfl⟩
  rw [← hBb] at B0 hbW hz0 ⊢
  have hWB : W.heap.size ≤ Bb := by omega
  clear hBb
  go_loopw [] (fun wr => ∃ (k' : Nat) (acc : List UInt8) (f : Nat), k' ≤ s.size ∧ Scn wr b s k' ∧ Bld Bb Bb acc wr ∧ W.grownBy wr (some b) ∧ Hid (qGo f acc (s.data.toList.drop k') = q) ∧ s.size - k' < f ∧ acc.length ≤ k' ∧ Bb ≤ wr.heap.size) (fun wr => s.size - scanAt wr b)
  case atStart => exact ⟨k, [], _, hk, h0, B0, G0, hQ, Nat.lt_succ_self _, Nat.zero_le _, hz0⟩
  case round =>
    clear h0 B0 G0 hQ hz0
    obtain ⟨k', acc, f, hk', hS, hB, hG, hQ, hf, hl, hbw⟩ := hrel
    obtain ⟨f, rfl⟩ : ∃ f', f = f' + 1 := ⟨f - 1, by omega⟩
    have hms := scanAt_of hS
    by_cases hlt : k' < s.size
    · have HM := Lib.hid (more_yes wr b k' s hS hlt)
      have q1 := qGo_quote s k' f acc hlt
      have q2 := qGo_esc s k' f acc hlt
      have q3 := qGo_plain s k' f acc hlt
      have q4 := qGo_bad s k' f acc hlt
      rw [hQ.out] at q1 q2 q3 q4
      have Q := Lib.hid (And.intro q1 (And.intro q2 (And.intro q3 q4)))
      have HS := Lib.hid hS
      have HB := Lib.hid hB
      have HG := Lib.hid hG
      clear q1 q2 q3 q4 hQ hS hB hG
      go_wp2_with fail
      refine HM.out.mono ?_
      rintro e w1 ⟨rfl, m, rfl⟩
      have HS1 := Lib.hid (HS.out.drewN m)
      have g1 := grow_drew wr m (some b)
      have HB1 := Lib.hid (bld_grown HB.out g1 hbW)
      have HG1 := Lib.hid (grow_trans HG.out g1)
      have hb1 := Nat.le_trans hbw g1.size
      clear g1 HM
      generalize wr.drewN m = w1 at *
      have HN := Lib.hid (next_any w1 b k' s (by omega) HS1.out hk')
      rw [nx_lt hlt] at HN
      go_wp2_with fail
      refine HN.out.mono ?_
      rintro e w2 ⟨rfl, s2⟩
      have HS2 := Lib.hid s2.box
      have HB2 := Lib.hid (bld_grown HB1.out s2.grow hbW)
      have HG2 := Lib.hid (grow_trans HG1.out s2.grow)
      have hb2 := Nat.le_trans hb1 s2.grow.size
      clear s2 HN HS1 HB1 HG1 hb1
      by_cases c1 : (getz s k').toNat = 34
      · have hq := Lib.hid (Q.out.1 (UInt8.toNat_inj.1 c1))
        have HT := Lib.hid (Tryd.Builder_String_any Bb Bb acc w2 HB2.out hb2)
        clear Q
        go_wp2_with fail
        refine HT.out.mono ?_
        rintro e w3 ⟨rfl, b3⟩
        have hfin : QPost q W b s (.returned (.tuple #[.string ⟨acc.toArray⟩, .bool true])) w3 := by
          unfold QPost
          rw [hq.out]
          refine ⟨rfl, ?_⟩
          rw [posOf_drop s (k' + 1) (by omega)]
          exact ⟨HS2.out.below b3 hbW, grow_below HG2.out (b3.mono (by omega))⟩
        have hfin := Lib.hid hfin
        go_wp2_with fail
        go_ret2
        exact hfin.out
      · obtain ⟨x1, x2⟩ := bne_nat (getz s k').toNat 34 (by omega)
        by_cases c2 : (getz s k').toNat = 92
        · have hq := Lib.hid (Q.out.2.1 (UInt8.toNat_inj.1 c2))
          have HE := Lib.hid (escape_any w2 b (k' + 1) s (by omega) HS2.out hlt)
          clear Q
          unfold EscPost at HE
          by_cases hz : (escZ s (k' + 1)).2 = 0
          · rw [if_pos hz] at hq
            simp only [if_pos hz] at HE
            clear hz
            go_wp2_with fail
            refine HE.out.mono ?_
            rintro e w3 ⟨x, k2, hk2, rfl, s3⟩
            have hfin : QPost q W b s (.returned (.tuple #[.string ⟨#[]⟩, .bool false])) w3 := by
              rw [hq.out]
              exact ⟨k2, hk2, rfl, s3.box, grow_trans HG2.out s3.grow⟩
            have hfin := Lib.hid hfin
            clear s3
            go_wp2_with fail
            go_ret2
            exact hfin.out
          · rw [if_neg hz] at hq
            simp only [if_neg hz] at HE
            obtain ⟨n, hn⟩ : ∃ n, n = (escZ s (k' + 1)).2 := ⟨_, rfl⟩
            obtain ⟨c, hc⟩ : ∃ c, c = (escZ s (k' + 1)).1 := ⟨_, rfl⟩
            rw [← hn] at hq HE hz
            rw [← hc] at hq HE
            clear hn hc
            go_wp2_with fail
            refine HE.out.mono ?_
            rintro e w3 ⟨rfl, hk3, s3⟩
            have HS3 := Lib.hid s3.box
            have HB3 := Lib.hid (bld_grown HB2.out s3.grow hbW)
            have HG3 := Lib.hid (grow_trans HG2.out s3.grow)
            have hb3 := Nat.le_trans hb2 s3.grow.size
            clear s3
            have HW := Lib.hid (WriteByte_keep Bb Bb acc c w3 HB3.out (by omega) hb3)
            go_wp2_with fail
            refine HW.out.mono ?_
            rintro e w4 ⟨rfl, h4, k4⟩
            go_wp2_with fail
            refine ⟨⟨k' + 1 + n, acc ++ [c], f, hk3, HS3.out.below k4.1 hbW, h4, grow_below HG3.out (k4.1.mono (by omega)), Lib.hid hq.out.symm, by omega, by simp; omega, Nat.le_trans hb3 k4.1.size⟩, ?_⟩
            rw [hms, scanAt_of (HS3.out.below k4.1 hbW)]; omega
        · obtain ⟨y1, y2⟩ := bne_nat (getz s k').toNat 92 (by omega)
          by_cases c3 : 32 ≤ (getz s k').toNat ∧ (getz s k').toNat < 127
          · have hq := Lib.hid (Q.out.2.2.1 c3.1 c3.2 c1 c2)
            obtain ⟨c4, c5⟩ := c3
            generalize getz s k' = c at *
            have d1 := le_t (a := 32) (b := c.toNat) (by omega)
            have d2 := lt_t (a := c.toNat) (b := 127) (by omega)
            have HW := Lib.hid (WriteByte_keep Bb Bb acc c w2 HB2.out (by omega) hb2)
            clear Q
            go_wp2_with fail
            refine HW.out.mono ?_
            rintro e w4 ⟨rfl, h4, k4⟩
            go_wp2_with fail
            refine ⟨⟨k' + 1, acc ++ [c], f, hlt, HS2.out.below k4.1 hbW, h4, grow_below HG2.out (k4.1.mono (by omega)), Lib.hid hq.out.symm, by omega, by simp; omega, Nat.le_trans hb2 k4.1.size⟩, ?_⟩
            rw [hms, scanAt_of (HS2.out.below k4.1 hbW)]; omega
          · have hq := Lib.hid (Q.out.2.2.2 (by omega))
            have hfin : QPost q W b s (.returned (.tuple #[.string ⟨#[]⟩, .bool false])) w2 := by
              rw [hq.out]
              exact ⟨k' + 1, hlt, rfl, HS2.out, HG2.out⟩
            have hfin := Lib.hid hfin
            have c4 : (getz s k').toNat < 32 ∨ 127 ≤ (getz s k').toNat := by omega
            clear Q c3 c1 c2
            generalize getz s k' = c at *
            rcases c4 with c4 | c4
            · have d1 := le_f (a := 32) (b := c.toNat) (by omega)
              go_wp2_with fail
              go_ret2
              exact hfin.out
            · have d1 := le_t (a := 32) (b := c.toNat) (by omega)
              have d2 := lt_f (a := c.toNat) (b := 127) (by omega)
              go_wp2_with fail
              go_ret2
              exact hfin.out
    · have HM := Lib.hid (more_no wr b k' s hS (by omega))
      have q1 := qGo_end s k' f acc (by omega)
      rw [hQ.out] at q1
      have hq := Lib.hid q1
      have HS := Lib.hid hS
      have HG := Lib.hid hG
      clear q1 hQ hS hB hG
      go_wp2_with fail
      refine HM.out.mono ?_
      rintro e w1 ⟨rfl, m, rfl⟩
      have hfin : QPost q W b s (.returned (.tuple #[.string ⟨#[]⟩, .bool false])) (wr.drewN m) := by
        rw [hq.out]
        exact ⟨k', hk', rfl, HS.out.drewN m, grow_trans HG.out (grow_drew wr m (some b))⟩
      have hfin := Lib.hid hfin
      go_wp2_with fail
      go_ret2
      exact hfin.out
end Go.Proofs.YtbcofimmfbmkoaaDoor
