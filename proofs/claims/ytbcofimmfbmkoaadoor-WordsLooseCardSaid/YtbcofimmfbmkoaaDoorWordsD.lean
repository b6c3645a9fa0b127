/- The walk of Quote of chapter 3, the program's. -/
import Derived.Test.YtbcofimmfbmkoaaDoorWordsB
import Derived.Test.YtbcofimmfbmkoaaDoorKitL
namespace Go.Proofs.YtbcofimmfbmkoaaDoor
open Go.RowKit Words3

def qs (s : ByteArray) (k : Nat) : List UInt8 := 34 :: (s.data.toList.take k).flatMap escB
theorem qs_len (s : ByteArray) (k : Nat) : (qs s k).length ≤ 1 + 4 * k := by
  unfold qs
  have : ∀ l : List UInt8, (l.flatMap escB).length ≤ 4 * l.length := by
    intro l
    induction l with
    | nil => simp
    | cons c l ih => have := (escB_len c).2; rw [List.flatMap_cons, List.length_append, List.length_cons]; omega
  have h := this (s.data.toList.take k)
  have := List.length_take_le k s.data.toList
  rw [List.length_cons]; omega
theorem qs_next (s : ByteArray) (k : Nat) (h : k < s.size) : qs s (k + 1) = qs s k ++ escB s[k] := by
  unfold qs
  rw [bytes_snoc s k h, List.flatMap_append]; simp
theorem qs_end (s : ByteArray) : qs s s.size ++ [34] = quotedF s.data.toList := by unfold qs quotedF; rw [bytes_all]; rfl
theorem esc_10 {c : UInt8} (h : c.toNat = 10) : escB c = [92, 110] := by
  obtain rfl : c = 10 := UInt8.toNat_inj.1 h
  rfl
theorem esc_q {c : UInt8} (h : c.toNat = 34 ∨ c.toNat = 92) : escB c = [92, c] := by
  rcases h with h | h
  · obtain rfl : c = 34 := UInt8.toNat_inj.1 h
    rfl
  · obtain rfl : c = 92 := UInt8.toNat_inj.1 h
    rfl
theorem esc_class (c : UInt8) : (c.toNat = 34 ∨ c.toNat = 92 → escB c = [92, c]) ∧ (32 ≤ c.toNat ∧ c.toNat < 127 ∧ c.toNat ≠ 34 ∧ c.toNat ≠ 92 → escB c = [c]) ∧ ((c.toNat < 32 ∧ c.toNat ≠ 10) ∨ 127 ≤ c.toNat → escB c = [92, 120, hexD (c.toNat / 16), hexD (c.toNat % 16)]) :=
  byte_all (P := fun c => (c.toNat = 34 ∨ c.toNat = 92 → escB c = [92, c]) ∧ (32 ≤ c.toNat ∧ c.toNat < 127 ∧ c.toNat ≠ 34 ∧ c.toNat ≠ 92 → escB c = [c]) ∧ ((c.toNat < 32 ∧ c.toNat ≠ 10) ∨ 127 ≤ c.toNat → escB c = [92, 120, hexD (c.toNat / 16), hexD (c.toNat % 16)])) (by decide +kernel) c

theorem hex_get : ∀ n : Fin 16, hexD n.1 = (⟨#[48, 49, 50, 51, 52, 53, 54, 55, 56, 57, 97, 98, 99, 100, 101, 102]⟩ : ByteArray)[n.1]'(n.2) := by decide
theorem hex_int (n : Nat) (h : n < 16) : ((hexD n).toNat : Int) = (((⟨#[48, 49, 50, 51, 52, 53, 54, 55, 56, 57, 97, 98, 99, 100, 101, 102]⟩ : ByteArray)[n]'h).toNat : Int) := by
  rw [hex_get ⟨n, h⟩]
set_option maxHeartbeats 2000000 in
set_option maxRecDepth 100000 in
theorem Quote_any (s : ByteArray) (hs : s.size ≤ 100000) (w : World) : Calls Tryd.prog 19 #[.string s] w fun e w' => e = .returned (.string ⟨(quoteF s.data.toList).toArray⟩) ∧ Below w.heap.size w w' := by
  have HB := Lib.hid (bare_any s (by omega) w)
  cases hb : bareB s.data.toList with
  | true =>
    have hfin := Lib.hid (show quoteF s.data.toList = s.data.toList by unfold quoteF; rw [if_pos hb])
    rw [hb] at HB
    clear hb
    go_enter Tryd.func19, Tryd.ntmps19
    go_wp2_with fail
    refine HB.out.mono ?_
    rintro e w1 ⟨rfl, b1⟩
    go_wp2_with fail
    go_ret
    exact ⟨by rw [hfin.out]; rfl, b1⟩
  | false =>
    have hfin := Lib.hid (show quoteF s.data.toList = quotedF s.data.toList by unfold quoteF; rw [if_neg (by rw [hb]; simp)])
    rw [hb] at HB
    clear hb
    have hcv := fun w => run_bytes_of_string (P := Tryd.prog) w 9 71 5 s Tryd.underlying9 Tryd.underlying71 Tryd.underlying5
    go_enter Tryd.func19, Tryd.ntmps19
    go_wp2_with fail
    refine HB.out.mono ?_
    rintro e w1 ⟨rfl, b1⟩
    have HN := Lib.hid (Bld.fresh w1)
    have hnb := Go.Joins.below_alloc1 w1 (.cells #[.pointer none, .slice none 0 0] 74)
    go_wp2_with fail
    refine (WriteByte_int w1.heap.size w1.heap.size [] 34 34 rfl _ HN.out (by simp) (by simp)).mono ?_
    rintro e w2 ⟨rfl, h2, k2⟩
    have b2 := b1.trans ((hnb.trans k2.1).mono b1.size)
    have hlb := h2.lt
    have hq1 : [] ++ [34] = qs s 0 := rfl
    rw [hq1] at h2
    have hb0 : w.heap.size ≤ w1.heap.size := b1.size
    generalize w1.heap.size = b at *
    clear HN hnb k2 b1 HB hq1
    go_wp2_with fail
    clear hcv
    obtain ⟨cap, hcap⟩ : ∃ c, c = grownCap w2 s.size 0 5 := ⟨_, rfl⟩
    rw [← hcap]
    clear hcap
    have hrow := (RowB.bytes w2 s cap 5 (bytesRow s cap).size ((bytesRow s cap).size + 1) (by unfold bytesRow; simp only [Array.size_append, Array.size_map]; exact Nat.le_add_right _ _)).drew
    have hnew : (w2.alloc (.cells (bytesRow s cap) 5 ((bytesRow s cap).size, (bytesRow s cap).size + 1))).drew.heap[w2.heap.size]? = some (.cells (bytesRow s cap) 5 ((bytesRow s cap).size, (bytesRow s cap).size + 1)) := World.alloc_heap_new w2 _
    have h3 := bld_drew (bld_row h2 (.cells (bytesRow s cap) 5 ((bytesRow s cap).size, (bytesRow s cap).size + 1)))
    have hb3 := b2.trans (((Below.refl _ w2).alloc (Nat.le_refl _) (.cells (bytesRow s cap) 5 ((bytesRow s cap).size, (bytesRow s cap).size + 1))).drew.mono b2.size)
    obtain ⟨g, hg⟩ : ∃ g, g = w2.heap.size := ⟨_, rfl⟩
    rw [← hg] at hrow hnew ⊢
    have hgb : g ≠ b := by omega
    clear hg h2 b2 hlb
    obtain ⟨O, hO⟩ : ∃ O : Obj, O = .cells (bytesRow s cap) 5 ((bytesRow s cap).size, (bytesRow s cap).size + 1) := ⟨_, rfl⟩
    rw [← hO] at hrow hnew h3 hb3 ⊢
    have hOn := Lib.hid (show ∀ cs : Array Value, O ≠ .cells cs 5 (0, 0) from fun cs e => by rw [hO] at e; exact absurd (Prod.mk.inj (Obj.cells.inj e).2.2).2 (by omega))
    clear hO
    generalize World.drew _ = W0 at *
    have HR := Lib.hid hrow
    have hN := Lib.hid hnew
    clear hrow hnew
    go_loopw [13] (fun i wr => ∃ k : Nat, i = .int .i64 k ∧ k ≤ s.size ∧ Bld b b (qs s k) wr ∧ Hid (wr.heap[g]? = some O) ∧ Below w.heap.size w wr ∧ b ≤ wr.heap.size) (fun i _ => s.size - (intOf i).toNat)
    case atStart => exact ⟨0, rfl, Nat.zero_le _, h3, hN, hb3, by have := h3.lt; omega⟩
    case round =>
      clear h3 hb3
      obtain ⟨k, rfl, hk, hB, hH, hbl, hbw⟩ := hrel
      have hql := qs_len s k
      by_cases hlt : k < s.size
      · have hlt' : decide ((k : Int) < s.size) = true := lt_t (by omega)
        have hltn : decide (k < s.size) = true := decide_eq_true hlt
        have hc := ((HR.out.same (hH.out.trans hN.out.symm)) k (by simpa using hlt)).1
        rw [get_list s k hlt] at hc
        have hnx := Lib.hid (qs_next s k hlt)
        obtain ⟨c, hce⟩ : ∃ c, c = s[k] := ⟨_, rfl⟩
        rw [← hce] at hc hnx
        clear hce
        obtain ⟨q1, q2, q3⟩ := esc_class c
        have hcn := UInt8.toNat_lt c
        have step : ∀ W', Bld b b (qs s k ++ escB c) W' → Keep b b wr W' → (∃ k' : Nat, Value.int IntKind.i64 ((k : Int) + 1) = .int .i64 k' ∧ k' ≤ s.size ∧ Bld b b (qs s k') W' ∧ Hid (W'.heap[g]? = some O) ∧ Below w.heap.size w W' ∧ b ≤ W'.heap.size) := fun W' h1 h2 =>
          ⟨k + 1, by go_num, hlt, by rw [hnx.out]; exact h1, Lib.hid (h2.2 g O hH.out hgb hOn.out), hbl.trans (h2.1.mono hb0), Nat.le_trans hbw h2.1.size⟩
        have Step := Lib.hid step
        clear step hH hnx
        by_cases c1 : c.toNat = 10
        · have HW := Lib.hid (WriteString_keep b b (qs s k) [92, 110] wr hB (by omega) (by simp) hbw)
          have he := Lib.hid (esc_10 c1)
          clear q1 q2 q3 hB
          go_wp2_with fail
          refine HW.out.mono ?_
          rintro e w5 ⟨rfl, h5, k5⟩
          go_wp2_with fail
          refine ⟨Step.out _ (by rw [he.out]; exact h5) k5, by simp [intOf]; omega⟩
        · obtain ⟨x1, x2⟩ := bne_nat c.toNat 10 (by omega)
          by_cases c2 : c.toNat = 34 ∨ c.toNat = 92
          · have he := Lib.hid (q1 c2)
            clear q1 q2 q3
            have HW1 := Lib.hid (WriteByte_int b b (qs s k) 92 92 rfl wr hB (by omega) hbw)
            clear hB
            have HW2 := Lib.hid (fun W h hb => WriteByte_keep b b (qs s k ++ [92]) c W h (by simp; omega) hb)
            rcases c2 with c2 | c2
            · go_wp2_with fail
              refine HW1.out.mono ?_
              rintro e w5 ⟨rfl, h5, k5⟩
              have b5 := Nat.le_trans hbw k5.1.size
              have H2 := Lib.hid (HW2.out w5 h5 b5)
              rw [c2] at H2
              clear h5
              go_wp2_with fail
              refine H2.out.mono ?_
              rintro e w6 ⟨rfl, h6, k6⟩
              go_wp2_with fail
              refine ⟨Step.out _ (by rw [he.out]; rw [List.append_assoc] at h6; exact h6) (k5.trans k6), by simp [intOf]; omega⟩
            · obtain ⟨y1, y2⟩ := bne_nat c.toNat 34 (by omega)
              go_wp2_with fail
              refine HW1.out.mono ?_
              rintro e w5 ⟨rfl, h5, k5⟩
              have b5 := Nat.le_trans hbw k5.1.size
              have H2 := Lib.hid (HW2.out w5 h5 b5)
              rw [c2] at H2
              clear h5
              go_wp2_with fail
              refine H2.out.mono ?_
              rintro e w6 ⟨rfl, h6, k6⟩
              go_wp2_with fail
              refine ⟨Step.out _ (by rw [he.out]; rw [List.append_assoc] at h6; exact h6) (k5.trans k6), by simp [intOf]; omega⟩
          · obtain ⟨y1, y2⟩ := bne_nat c.toNat 34 (by omega)
            obtain ⟨z1, z2⟩ := bne_nat c.toNat 92 (by omega)
            by_cases c3 : 32 ≤ c.toNat ∧ c.toNat < 127
            · have he := Lib.hid (q2 ⟨c3.1, c3.2, by omega, by omega⟩)
              have HW1 := Lib.hid (WriteByte_keep b b (qs s k) c wr hB (by omega) hbw)
              obtain ⟨c4, c5⟩ := c3
              have d1 := le_t (a := 32) (b := c.toNat) (by omega)
              have d2 := lt_t (a := c.toNat) (b := 127) (by omega)
              clear q1 q2 q3 hB c2
              go_wp2_with fail
              refine HW1.out.mono ?_
              rintro e w5 ⟨rfl, h5, k5⟩
              go_wp2_with fail
              refine ⟨Step.out _ (by rw [he.out]; exact h5) k5, by simp [intOf]; omega⟩
            · have he := Lib.hid (q3 (by omega))
              have HW1 := Lib.hid (WriteString_keep b b (qs s k) [92, 120] wr hB (by omega) (by simp) hbw)
              have HW2 := Lib.hid (fun x hx W h hb => WriteByte_int b b (qs s k ++ [92, 120]) (hexD (c.toNat / 16)) x hx W h (by simp; omega) hb)
              have HW3 := Lib.hid (fun x hx W h hb => WriteByte_int b b (qs s k ++ [92, 120] ++ [hexD (c.toNat / 16)]) (hexD (c.toNat % 16)) x hx W h (by simp; omega) hb)
              have c4 : c.toNat < 32 ∨ 127 ≤ c.toNat := by omega
              clear q1 q2 q3 hB c2 c3
              have i1 : (0 : Int) ≤ (c.toNat : Int) / 16 ∧ (c.toNat : Int) / 16 < 16 := by omega
              have i2 : (0 : Int) ≤ (c.toNat : Int) % 16 ∧ (c.toNat : Int) % 16 < 16 := by omega
              rcases c4 with c4 | c4
              · have d1 := le_f (a := 32) (b := c.toNat) (by omega)
                go_wp2_with fail
                refine HW1.out.mono ?_
                rintro e w5 ⟨rfl, h5, k5⟩
                have b5 := Nat.le_trans hbw k5.1.size
                go_wp2_with fail
                refine (HW2.out _ (hex_int _ (by omega)) _ h5 b5).mono ?_
                rintro e w6 ⟨rfl, h6, k6⟩
                have b6 := Nat.le_trans b5 k6.1.size
                have k6' := k5.trans k6
                clear h5 k5 k6
                go_wp2_with fail
                refine (HW3.out _ (hex_int _ (by omega)) _ h6 b6).mono ?_
                rintro e w7 ⟨rfl, h7, k7⟩
                go_wp2_with fail
                refine ⟨Step.out _ (by rw [he.out]; simp only [List.append_assoc] at h7; exact h7) (k6'.trans k7), by simp [intOf]; omega⟩
              · have d1 := le_t (a := 32) (b := c.toNat) (by omega)
                have d2 := lt_f (a := c.toNat) (b := 127) (by omega)
                go_wp2_with fail
                refine HW1.out.mono ?_
                rintro e w5 ⟨rfl, h5, k5⟩
                have b5 := Nat.le_trans hbw k5.1.size
                go_wp2_with fail
                refine (HW2.out _ (hex_int _ (by omega)) _ h5 b5).mono ?_
                rintro e w6 ⟨rfl, h6, k6⟩
                have b6 := Nat.le_trans b5 k6.1.size
                have k6' := k5.trans k6
                clear h5 k5 k6
                go_wp2_with fail
                refine (HW3.out _ (hex_int _ (by omega)) _ h6 b6).mono ?_
                rintro e w7 ⟨rfl, h7, k7⟩
                go_wp2_with fail
                refine ⟨Step.out _ (by rw [he.out]; simp only [List.append_assoc] at h7; exact h7) (k6'.trans k7), by simp [intOf]; omega⟩
      · have hlt' : decide ((k : Int) < s.size) = false := lt_f (by omega)
        have hltn : decide (k < s.size) = false := decide_eq_false hlt
        obtain rfl : k = s.size := by omega
        have HW1 := Lib.hid (WriteByte_int b b (qs s s.size) 34 34 rfl wr hB (by omega) hbw)
        rw [qs_end] at HW1
        clear hB
        go_wp2_with fail
        refine HW1.out.mono ?_
        rintro e w5 ⟨rfl, h5, k5⟩
        have HS := Lib.hid (Tryd.Builder_String_any b b _ _ h5 (Nat.le_trans hbw k5.1.size))
        clear h5
        go_wp2_with fail
        refine HS.out.mono ?_
        rintro e w6 ⟨rfl, b6⟩
        go_wp2_with fail
        go_ret
        exact ⟨by rw [hfin.out]; rfl, hbl.trans ((k5.1.mono hb0).trans (b6.mono hb0))⟩
end Go.Proofs.YtbcofimmfbmkoaaDoor
