/- The walk of the reference's quoted, chapter 3. -/
import Derived.Test.YtbcofimmfbmkoaaDoorWordsR
namespace Go.Proofs.YtbcofimmfbmkoaaDoor
open Go.RowKit Go.Shelf Words3

theorem below_drewN (B : Nat) (W : World) (n : Nat) : Below B W (W.drewN n) := by
  induction n with
  | zero => exact Below.refl _ _
  | succ n ih => exact ih.drew
/-- A quoted body from a place on: its text, and what stands behind it. -/
def rqF (s : List UInt8) : Option (List UInt8 × List UInt8) := if s.head? = some 34 then quotedL (s.drop 1) else none
/-- What the reference's quoted hands back. -/
def RQPost (q : Option (List UInt8 × List UInt8)) (s : ByteArray) (e : Ending) : Prop :=
  match q with
  | some p => e = .returned (.tuple #[.string ⟨p.1.toArray⟩, .int .i64 (posOf s p.2 : Int)])
  | none => e = .returned (.tuple #[.string ⟨#[]⟩, .int .i64 (-1)])
theorem RQPost.some {t r : List UInt8} {s : ByteArray} {e : Ending} {n : Nat} (hn : posOf s r = n) (h : e = .returned (.tuple #[.string ⟨t.toArray⟩, .int .i64 (n : Int)])) : RQPost (some (t, r)) s e := by
  show e = .returned (.tuple #[.string ⟨t.toArray⟩, .int .i64 (posOf s r : Int)])
  rw [hn]; exact h
theorem rqF_some {s : ByteArray} {k : Nat} (h : k < s.size) (hc : getz s k = 34) : rqF (s.data.toList.drop k) = qGo (s.size - (k + 1) + 1) [] (s.data.toList.drop (k + 1)) := by
  unfold rqF
  obtain ⟨e1, e2⟩ := head_drop s k h
  rw [e1, e2, hc, if_pos rfl]
  unfold quotedL
  rw [List.length_drop, bytes_len]
theorem rqF_none {s : ByteArray} {k : Nat} (h : ¬ (k < s.size ∧ getz s k = 34)) : rqF (s.data.toList.drop k) = none := by
  unfold rqF
  rcases Nat.lt_or_ge k s.size with h1 | h1
  · rw [(head_drop s k h1).1, if_neg (fun e => h ⟨h1, Option.some.inj e⟩)]
  · rw [drop_end s k h1]; rfl
theorem pieceL_34 {s : ByteArray} {k : Nat} (h : (pieceL (s.data.toList.drop k)).2 ≠ 0) : k < s.size ∧ getz s k ≠ 34 := by
  rcases Nat.lt_or_ge k s.size with h1 | h1
  · refine ⟨h1, fun e => h ?_⟩
    rw [pieceL_drop s k h1, if_pos (.inr (.inr e))]
  · rw [drop_end s k h1] at h; exact absurd rfl h

set_option maxHeartbeats 4000000 in
set_option maxRecDepth 100000 in
theorem Rquoted_any (W : World) (k : Nat) (s : ByteArray) (hs : s.size ≤ 100000) (hk : k ≤ s.size) (q : Option (List UInt8 × List UInt8)) (hq : rqF (s.data.toList.drop k) = q) :
    Calls Tryd.prog 40 #[.string s, .int .i64 (k : Int)] W fun e w' => RQPost q s e ∧ Below W.heap.size W w' := by
  have j2 : (0 : Int) ≤ (k : Int) := by omega
  rcases Nat.lt_or_ge k s.size with hlt | hge
  · have j3 : (k : Int) < s.size := by omega
    have j4 : ¬ s.size ≤ k := by omega
    have hg : s[k] = getz s k := getz_get s k hlt
    by_cases h34 : getz s k = 34
    · have n3 : (((s[k].toNat : Nat) : Int) != 34) = false := by rw [hg, h34]; rfl
      have i1 : IntKind.i64.wrap ((k : Int) + 1) = (k : Int) + 1 := by rw [IntKind.wrap_i64]; omega
      have HQ := Lib.hid ((rqF_some hlt h34).symm.trans hq)
      clear hg hq h34
      go_enter Tryd.func40, Tryd.ntmps40
      go_wp2_with fail
      go_loopw [1, 6] (fun at_ o wr => ∃ (j : Nat) (acc : List UInt8), at_ = .int .i64 j ∧ j ≤ s.size ∧ acc.length ≤ j ∧ Buf wr W.heap.size o acc ∧ Below W.heap.size W wr ∧ Hid (qGo (s.size - j + 1) acc (s.data.toList.drop j) = q)) (fun at_ _ _ => s.size - (intOf at_).toNat)
      case atStart => exact ⟨k + 1, [], by go_num, hlt, Nat.zero_le _, Buf.nil _ _, Below.refl _ _, HQ⟩
      case round =>
        obtain ⟨j, acc, rfl, hj, hacc, hB, hbl, hQ⟩ := hrel
        obtain ⟨V, rfl⟩ : ∃ V, V = wr := ⟨wr, rfl⟩
        clear HQ n3 i1
        have hbw := hbl.size
        obtain ⟨p, hp⟩ : ∃ p, pieceL (s.data.toList.drop j) = p := ⟨_, rfl⟩
        have HP := Lib.hid (Rpiece_any V j s (by omega) hj p hp)
        have h34 := pieceL_34 (s := s) (k := j)
        have hple := pieceL_le (s.data.toList.drop j)
        rw [hp] at h34 hple
        rw [List.length_drop, bytes_len] at hple
        obtain ⟨c, n⟩ := p
        dsimp only at h34 hple HP
        have j2 : (0 : Int) ≤ (j : Int) := by omega
        by_cases hn : n = 0
        · subst hn
          rw [show ((0 : Nat) : Int) = 0 from rfl] at HP
          have hgo : j < s.size → getz s j ≠ 34 → q = none := fun h1 h2 => by
            rw [← hQ.out, qGo_else s j _ acc h1 h2, hp]; rfl
          have hst := buf_string hB
          rcases Nat.lt_or_ge j s.size with h1 | h1
          · have j3 : (j : Int) < s.size := by omega
            have j4 : ¬ s.size ≤ j := by omega
            have hg : s[j] = getz s j := getz_get s j h1
            by_cases hc : getz s j = 34
            · have n3 : (((s[j].toNat : Nat) : Int) != 34) = false := by rw [hg, hc]; rfl
              have i1 : IntKind.i64.wrap ((j : Int) + 1) = (j : Int) + 1 := by rw [IntKind.wrap_i64]; omega
              have hq : q = some (acc, s.data.toList.drop (j + 1)) := by
                rw [← hQ.out, qGo_quote s j _ acc h1 hc]
              have hps := Lib.hid (posOf_drop s (j + 1) h1)
              clear hg hc hgo h34 hQ hp
              subst hq
              go_wp2_with fail
              refine HP.out.mono ?_
              rintro e w2 ⟨rfl, m, rfl⟩
              have hst2 := buf_string (hB.below (below_drewN _ V m))
              have hb2 := hbl.trans ((below_drewN _ V m).mono hbw)
              generalize V.drewN m = V2 at *
              go_wp2_with fail
              refine bodyPost_ret (results_tmp2 rfl _ _ _) rfl ?_
              exact ⟨RQPost.some hps.out rfl, hb2⟩
            · have n3 : (((s[j].toNat : Nat) : Int) != 34) = true := by
                rw [bne_iff_ne, hg]; intro h; exact hc (UInt8.toNat_inj.1 (by show _ = 34; omega))
              have hq := hgo h1 hc
              clear hg hc hgo h34 hQ hp
              subst hq
              go_wp2_with fail
              refine HP.out.mono ?_
              rintro e w2 ⟨rfl, m, rfl⟩
              have hb2 := hbl.trans ((below_drewN _ V m).mono hbw)
              go_wp2_with fail
              refine bodyPost_ret (results_tmp2 rfl _ _ _) rfl ?_
              exact ⟨rfl, hb2⟩
          · obtain rfl : j = s.size := by omega
            have j4 : s.size ≤ s.size := Nat.le_refl _
            have hq : q = none := by rw [← hQ.out, qGo_end s _ _ acc (Nat.le_refl _)]
            clear hgo h34 hQ hp
            subst hq
            go_wp2_with fail
            refine HP.out.mono ?_
            rintro e w2 ⟨rfl, m, rfl⟩
            have hb2 := hbl.trans ((below_drewN _ V m).mono hbw)
            go_wp2_with fail
            refine bodyPost_ret (results_tmp2 rfl _ _ _) rfl ?_
            exact ⟨rfl, hb2⟩
        · obtain ⟨h1, h2⟩ := h34 hn
          have n0 : (((n : Nat) : Int) == 0) = false := by rw [beq_eq_false_iff_ne]; omega
          have i1 : IntKind.i64.wrap ((j : Int) + (n : Int)) = (j : Int) + (n : Int) := by rw [IntKind.wrap_i64]; omega
          have hQ2 : Hid (qGo (s.size - (j + n) + 1) (acc ++ [c]) (s.data.toList.drop (j + n)) = q) := Lib.hid (by
            rw [← hQ.out, qGo_else s j _ acc h1 h2, hp, if_neg hn]
            exact qGo_fuel _ _ _ _ (by rw [List.length_drop, bytes_len]; omega) (by rw [List.length_drop, bytes_len]; omega))
          have hcs := Lib.hid (show ([Value.int .u8 (c.toNat : Int)] : List Value) = byteVals [c] from rfl)
          clear hQ hp h34
          go_wp2_with fail
          refine HP.out.mono ?_
          rintro e w2 ⟨rfl, m, rfl⟩
          have hB2 := hB.below (below_drewN _ V m)
          have hb2 := hbl.trans ((below_drewN _ V m).mono hbw)
          have hbw2 := hb2.size
          generalize V.drewN m = V2 at *
          go_wp2_with (at_builtin; refine app_bytes (m := 1) [c] rfl rfl W.heap.size rfl hB2 rfl (by simp [go_sem]) hcs.out (Nat.succ_pos _) (by simp) (by omega) hbw2 ?_; intro g cap w5 t5 b5)
          exact ⟨⟨j + n, acc ++ [c], by go_num, by omega, by rw [List.length_append]; simp; omega, t5, hb2.trans b5, hQ2⟩, by simp only [intOf]; omega⟩
    · have n3 : (((s[k].toNat : Nat) : Int) != 34) = true := by
        rw [bne_iff_ne, hg]; intro h; exact h34 (UInt8.toNat_inj.1 (by show _ = 34; omega))
      have hq' : q = none := hq.symm.trans (rqF_none (fun h => h34 h.2))
      clear hg hq
      subst hq'
      go_enter Tryd.func40, Tryd.ntmps40
      go_wp2_with fail
      refine bodyPost_ret (results_tmp2 rfl _ _ _) rfl ?_
      exact ⟨rfl, Below.refl _ _⟩
  · obtain rfl : k = s.size := by omega
    have hq' : q = none := hq.symm.trans (rqF_none (fun h => absurd h.1 (by omega)))
    subst hq'
    have j4 : s.size ≤ s.size := Nat.le_refl _
    clear hq
    go_enter Tryd.func40, Tryd.ntmps40
    go_wp2_with fail
    refine bodyPost_ret (results_tmp2 rfl _ _ _) rfl ?_
    exact ⟨rfl, Below.refl _ _⟩
end Go.Proofs.YtbcofimmfbmkoaaDoor
