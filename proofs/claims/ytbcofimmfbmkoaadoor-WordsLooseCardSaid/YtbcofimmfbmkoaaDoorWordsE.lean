/- The walk of the reference's Quote of chapter 3; appends of several bytes. -/
import Derived.Test.YtbcofimmfbmkoaaDoorWordsD
import Derived.Deep.RegionHeld3
namespace Go.Proofs.YtbcofimmfbmkoaaDoor
open Go.RowKit Words3

theorem new_cells (w : World) (cs : Array Value) (t : TypeId) (l : List Value) (h : cs.toList = l) (j : Nat) (u : Value) (hj : l[j]? = some u) : (w.alloc (.cells cs t)).cell? ((⟨w.heap.size, 0, none⟩ : Addr).add j) = some u := by
  rw [addr_add]
  have := World.cell?_alloc_mark w cs t (0, 0) j
  rw [this]
  rw [← h] at hj
  simpa using hj
theorem Buf.made (w : World) (cs : Array Value) (l : List UInt8) (h : cs.toList = byteVals l) (hm : l.length ≤ 1000000) : Buf (w.alloc (.cells cs 5)) w.heap.size (.slice (some ⟨w.heap.size, 0, none⟩) l.length l.length) l := by
  have hs : cs.size = l.length := by rw [← Array.length_toList, h, byteVals_length]
  refine ⟨by rw [byteVals_length]; omega, .inr ⟨w.heap.size, l.length, cs, rfl, Nat.le_refl _, World.alloc_heap_new w _, Nat.le_refl _, by unfold maxLen; omega, by omega, ?_⟩⟩
  rw [h]
  exact List.take_of_length_le (by rw [byteVals_length]; omega)
set_option maxRecDepth 100000 in
/-- 'b = append(b, x, ..)', some bytes. -/
theorem app_bytes {ops : Array Oper} {rest : List Oper} {o : Oper} {a : Act} {Q : Exit → Act → World → Prop} {w : World} {s x : Operand} {v : Value} {l : List UInt8} (news : List UInt8) {vs : List Value} (hgd : o.guard = none)
    (ho : o.op = .call { callee := .builtin .append, args := #[s, x], argTypes := #[71, 71] })
    (base : Nat) (hs : a.eval s = v) (hown : Buf w base v l) {m : Nat} (hm : news.length = m) (hx : a.eval x = .slice (some ⟨w.heap.size, 0, none⟩) m m) (hcs : vs = byteVals news)
    (h0 : 0 < m) (hm2 : m ≤ 1000) (hlen : l.length ≤ 1000000) (hbase : base ≤ w.heap.size)
    (h : ∀ g cap w', Buf w' base (.slice (some ⟨g, 0, none⟩) (l.length + m) cap) (l ++ news) → Below base w w' → wpList Tryd.prog ops Q rest (a.put o.dst (.slice (some ⟨g, 0, none⟩) (l.length + m) cap)) w') :
    wpList Tryd.prog ops Q (o :: rest) a (w.alloc (.cells vs.toArray 5)) := by
  obtain ⟨i0, hi, hz0, hz1, hz2⟩ := info_parts infoU8
  refine wpList_append_own _ hgd s x 71 ho base 5 i0 (.int .u8 0) 1 1 Tryd.underlying71 hi hz0 hz1 hz2 rfl (by decide) v _ _ hs (World.ownsRow.alloc hown _) ⟨w.heap.size, 0, none⟩ m m (byteVals news) hx (by rw [byteVals_length]; omega)
    (fun j u hj => new_cells w vs.toArray _ _ (by rw [← hcs]) j u hj) (by intro u hu; obtain ⟨y, _, rfl⟩ := List.mem_map.1 hu; rfl) (by unfold maxLen; omega) (by omega) (by simp; omega) ?_
  intro v' w' hown' hgrow _
  rw [← byteVals_append] at hown'
  have hl : (l ++ news).length = l.length + m := by rw [List.length_append, hm]
  have hbuf : Buf w' base v' (l ++ news) := by unfold Buf; rw [hl]; exact hown'
  have hb : Below base w w' := ((Below.refl base w).alloc hbase _).grown hgrow (by simp; omega) (fun k hk => (World.ownsRow.lt hown k hk).1)
  rcases hbuf.form with ⟨_, hn⟩ | ⟨g, cap, rfl, hg⟩
  · rw [hn] at hl; simp at hl; omega
  · rw [hl] at hbuf ⊢
    exact h g cap w' hbuf hb

set_option maxRecDepth 100000 in
/-- The same, the bytes in a block of whatever world stands there. -/
theorem step_app_bytes {ops : Array Oper} {o : Oper} {a : Act} {W : World} {K : Act → World → Prop} {Q : Exit → Act → World → Prop} {E : Prop} {s x : Operand} {v : Value} {l : List UInt8} (news : List UInt8) {g0 : Nat} (hgd : o.guard = none)
    (ho : o.op = .call { callee := .builtin .append, args := #[s, x], argTypes := #[71, 71] })
    (base : Nat) (hs : a.eval s = v) (hown : Buf W base v l) {m : Nat} (hm : news.length = m) (hx : a.eval x = .slice (some ⟨g0, 0, none⟩) m m) (hcs : W.heap[g0]? = some (.cells (byteVals news).toArray 5 (0, 0)))
    (h0 : 0 < m) (hm2 : m ≤ 1000) (hlen : l.length ≤ 1000000) (hbase : base ≤ W.heap.size)
    (h : ∀ g cap w', Buf w' base (.slice (some ⟨g, 0, none⟩) (l.length + m) cap) (l ++ news) → Below base W w' → K (a.put o.dst (.slice (some ⟨g, 0, none⟩) (l.length + m) cap)) w') :
    if Region.wanted o (yielded ops a.tmps) = true then Oper.wp Tryd.prog o a W K Q else E := by
  have hw : Region.wanted o (yielded ops a.tmps) = true := by simp [Region.wanted, hgd]
  rw [if_pos hw]
  obtain ⟨i0, hi, hz0, hz1, hz2⟩ := info_parts infoU8
  refine wp_append_own _ s x 71 ho base 5 i0 (.int .u8 0) 1 1 Tryd.underlying71 hi hz0 hz1 hz2 rfl (by decide) v _ _ hs hown ⟨g0, 0, none⟩ m m (byteVals news) hx (by rw [byteVals_length]; omega)
    (fun j u hj => by rw [addr_add, Lib.cell_of_heap hcs]; simpa using hj) (by intro u hu; obtain ⟨y, _, rfl⟩ := List.mem_map.1 hu; rfl) (by unfold maxLen; omega) (by omega) hbase ?_
  intro v' w' hown' hgrow _
  rw [← byteVals_append] at hown'
  have hl : (l ++ news).length = l.length + m := by rw [List.length_append, hm]
  have hbuf : Buf w' base v' (l ++ news) := by unfold Buf; rw [hl]; exact hown'
  have hb : Below base W w' := (Below.refl base W).grown hgrow hbase (fun k hk => (World.ownsRow.lt hown k hk).1)
  rcases hbuf.form with ⟨_, hn⟩ | ⟨g, cap, rfl, hg⟩
  · rw [hn] at hl; simp at hl; omega
  · rw [hl] at hbuf ⊢
    exact h g cap w' hbuf hb
theorem hex_index (n : Nat) (h : n < 16) (i : Int) (hi : i = (n : Int)) (W : World) : (Instr.index 9 (.string ⟨#[48, 49, 50, 51, 52, 53, 54, 55, 56, 57, 97, 98, 99, 100, 101, 102]⟩) (.int .u8 i)).run Tryd.prog W = .ok (.int .u8 ((hexD n).toNat : Int)) W := by
  subst hi
  rw [run_index_string (h := Tryd.underlying9), dif_pos ⟨by omega, by show (n : Int) < 16; omega⟩, hex_int n h]
  rfl
set_option maxHeartbeats 2000000 in
set_option maxRecDepth 100000 in
theorem RQuote_any (s : ByteArray) (hs : s.size ≤ 100000) (w : World) : Calls Tryd.prog 20 #[.string s] w fun e w' => e = .returned (.string ⟨(quoteF s.data.toList).toArray⟩) ∧ Below w.heap.size w w' := by
  have HB := Lib.hid (Rplain_any s (by omega) w)
  cases hb : bareB s.data.toList with
  | true =>
    have hfin := Lib.hid (show quoteF s.data.toList = s.data.toList by unfold quoteF; rw [if_pos hb])
    rw [hb] at HB
    clear hb
    go_enter Tryd.func20, Tryd.ntmps20
    go_wp2_with fail
    refine HB.out.mono ?_
    rintro e w1 ⟨rfl, rfl⟩
    go_wp2_with fail
    go_ret
    exact ⟨by rw [hfin.out]; rfl, Below.refl _ _⟩
  | false =>
    have hfin := Lib.hid (show quoteF s.data.toList = quotedF s.data.toList by unfold quoteF; rw [if_neg (by rw [hb]; simp)])
    rw [hb] at HB
    clear hb
    go_enter Tryd.func20, Tryd.ntmps20
    go_wp2_with fail
    refine HB.out.mono ?_
    rintro e w1 ⟨rfl, rfl⟩
    have HN := Lib.hid (Buf.made w #[.int .u8 34] [34] rfl (by simp))
    have hnb := Lib.hid (Go.Joins.below_alloc1 w (.cells #[.int .u8 34] 5))
    go_wp2_with fail
    have h0 : Buf (w.alloc (.cells #[.int .u8 34] 5)) w.heap.size (.slice (some ⟨w.heap.size, 0, none⟩) 1 1) (qs s 0) := HN.out
    have hb0 := hnb.out
    clear HN hnb
    generalize World.alloc w _ = W0 at *
    go_loopw [4, 5] (fun a i wr => ∃ k : Nat, i = .int .i64 k ∧ k ≤ s.size ∧ Buf wr w.heap.size a (qs s k) ∧ Below w.heap.size w wr) (fun _ i _ => s.size - (intOf i).toNat)
    case atStart => exact ⟨0, rfl, Nat.zero_le _, h0, hb0⟩
    case round =>
      clear h0 hb0
      obtain ⟨k, rfl, hk, hB, hbl⟩ := hrel
      obtain ⟨W, rfl⟩ : ∃ W, W = wr := ⟨wr, rfl⟩
      have hql := qs_len s k
      have hbw := hbl.size
      by_cases hlt : k < s.size
      · have hlt' : decide ((k : Int) < s.size) = true := lt_t (by omega)
        have hltn : decide (k < s.size) = true := decide_eq_true hlt
        have hnx := Lib.hid (qs_next s k hlt)
        obtain ⟨q1, q2, q3⟩ := esc_class s[k]
        have hcn := UInt8.toNat_lt s[k]
        have step : ∀ a' W', Buf W' w.heap.size a' (qs s k ++ escB s[k]) → Below w.heap.size W W' → (∃ k' : Nat, Value.int IntKind.i64 ((k : Int) + 1) = .int .i64 k' ∧ k' ≤ s.size ∧ Buf W' w.heap.size a' (qs s k') ∧ Below w.heap.size w W') := fun a' W' h1 h2 =>
          ⟨k + 1, by go_num, hlt, by rw [hnx.out]; exact h1, hbl.trans h2⟩
        have Step := Lib.hid step
        clear step hnx
        by_cases c2 : s[k].toNat = 34 ∨ s[k].toNat = 92
        · have he := Lib.hid (q1 c2)
          clear q1 q2 q3
          rcases c2 with c2 | c2
          · have hcs := Lib.hid (show ([Value.int .u8 92, .int .u8 34] : List Value) = byteVals [92, s[k]] by rw [UInt8.toNat_inj.1 (show s[k].toNat = (34 : UInt8).toNat from c2)]; rfl)
            go_wp2_with (at_builtin; refine app_bytes (m := 2) [92, s[k]] rfl rfl w.heap.size rfl hB rfl (by simp [go_sem]) hcs.out (Nat.succ_pos _) (by simp) (by omega) hbw ?_; intro g cap w5 t5 b5)
            exact ⟨Step.out _ _ (by rw [he.out]; exact t5) b5, by simp [intOf]; omega⟩
          · have hcs := Lib.hid (show ([Value.int .u8 92, .int .u8 92] : List Value) = byteVals [92, s[k]] by rw [UInt8.toNat_inj.1 (show s[k].toNat = (92 : UInt8).toNat from c2)]; rfl)
            go_wp2_with (at_builtin; refine app_bytes (m := 2) [92, s[k]] rfl rfl w.heap.size rfl hB rfl (by simp [go_sem]) hcs.out (Nat.succ_pos _) (by simp) (by omega) hbw ?_; intro g cap w5 t5 b5)
            exact ⟨Step.out _ _ (by rw [he.out]; exact t5) b5, by simp [intOf]; omega⟩
        · obtain ⟨y1, y2⟩ := bne_nat s[k].toNat 34 (by omega)
          obtain ⟨z1, z2⟩ := bne_nat s[k].toNat 92 (by omega)
          by_cases c1 : s[k].toNat = 10
          · have he := Lib.hid (esc_10 c1)
            have hcs := Lib.hid (show ([Value.int .u8 92, .int .u8 110] : List Value) = byteVals [92, 110] from rfl)
            clear q1 q2 q3 c2 y1 y2 z1 z2
            go_wp2_with (at_builtin; refine app_bytes (m := 2) [92, 110] rfl rfl w.heap.size rfl hB rfl (by simp [go_sem]) hcs.out (Nat.succ_pos _) (by simp) (by omega) hbw ?_; intro g cap w5 t5 b5)
            exact ⟨Step.out _ _ (by rw [he.out]; exact t5) b5, by simp [intOf]; omega⟩
          · obtain ⟨x1, x2⟩ := bne_nat s[k].toNat 10 (by omega)
            by_cases c3 : 32 ≤ s[k].toNat ∧ s[k].toNat < 127
            · have he := Lib.hid (q2 ⟨c3.1, c3.2, by omega, by omega⟩)
              have hcs := Lib.hid (show ([Value.int .u8 (s[k].toNat : Int)] : List Value) = byteVals [s[k]] from rfl)
              obtain ⟨c4, c5⟩ := c3
              have d1 := lt_f (a := s[k].toNat) (b := 32) (by omega)
              have d2 := lt_f (a := 126) (b := s[k].toNat) (by omega)
              clear q1 q2 q3 c2
              go_wp2_with (at_builtin; refine app_bytes (m := 1) [s[k]] rfl rfl w.heap.size rfl hB rfl (by simp [go_sem]) hcs.out (Nat.succ_pos _) (by simp) (by omega) hbw ?_; intro g cap w5 t5 b5)
              exact ⟨Step.out _ _ (by rw [he.out]; exact t5) b5, by simp [intOf]; omega⟩
            · have he := Lib.hid (q3 (by omega))
              have hcs := Lib.hid (fun (o : Obj) (_ : o = .cells #[Value.int .u8 92, .int .u8 120, .int .u8 ((hexD (s[k].toNat / 16)).toNat : Int), .int .u8 ((hexD (s[k].toNat % 16)).toNat : Int)] 5) => (World.alloc_heap_new W o : (W.alloc o).drew.heap[W.heap.size]? = some o))
              have x1 := fun W => hex_index (s[k].toNat / 16) (by omega) ((s[k].toNat : Int) / 16) (by omega) W
              have x2 := fun W => hex_index (s[k].toNat % 16) (by omega) ((s[k].toNat : Int) % 16) (by omega) W
              have c4 : s[k].toNat < 32 ∨ 127 ≤ s[k].toNat := by omega
              clear q1 q2 q3 c2 c3
              have j0 : (s[k].toNat : Int).tmod 16 = (s[k].toNat : Int) % 16 := Int.tmod_eq_emod_of_nonneg (by omega)
              have j1 : IntKind.u8.wrap ((s[k].toNat : Int) / 16) = (s[k].toNat : Int) / 16 := by rw [IntKind.wrap_u8']; omega
              have j2 : IntKind.u8.wrap ((s[k].toNat : Int) % 16) = (s[k].toNat : Int) % 16 := by rw [IntKind.wrap_u8']; omega
              rcases c4 with c4 | c4
              · have d1 := lt_t (a := s[k].toNat) (b := 32) (by omega)
                go_wp2_with fail
                go_region_held3 (fun _ => True) (trivial)
                  ((refine step_app_bytes (m := 4) [92, 120, hexD (s[k].toNat / 16), hexD (s[k].toNat % 16)] (by rfl) (by rfl) w.heap.size (by rfl) (hB.alloc _).drew (by rfl) (by simp [go_sem]) (hcs.out _ rfl) (Nat.succ_pos _) (by simp) (by omega) (by simp; omega) ?_; intro g cap w5 t5 b5))
                all_goals go_wp2_with fail
                all_goals exact ⟨Step.out _ _ (by rw [he.out]; exact t5) ((((Below.refl _ W).alloc hbw _).drew).trans b5), by simp [intOf]; omega⟩
              · have d1 := lt_f (a := s[k].toNat) (b := 32) (by omega)
                have d2 := lt_t (a := 126) (b := s[k].toNat) (by omega)
                go_wp2_with fail
                go_region_held3 (fun _ => True) (trivial)
                  ((refine step_app_bytes (m := 4) [92, 120, hexD (s[k].toNat / 16), hexD (s[k].toNat % 16)] (by rfl) (by rfl) w.heap.size (by rfl) (hB.alloc _).drew (by rfl) (by simp [go_sem]) (hcs.out _ rfl) (Nat.succ_pos _) (by simp) (by omega) (by simp; omega) ?_; intro g cap w5 t5 b5))
                all_goals go_wp2_with fail
                all_goals exact ⟨Step.out _ _ (by rw [he.out]; exact t5) ((((Below.refl _ W).alloc hbw _).drew).trans b5), by simp [intOf]; omega⟩
      · have hlt' : decide ((k : Int) < s.size) = false := lt_f (by omega)
        have hltn : decide (k < s.size) = false := decide_eq_false hlt
        obtain rfl : k = s.size := by omega
        have hcs := Lib.hid (show ([Value.int .u8 34] : List Value) = byteVals [34] from rfl)
        have hq := Lib.hid (qs_end s)
        go_wp2_with (at_builtin; refine app_bytes (m := 1) [34] rfl rfl w.heap.size rfl hB rfl (by simp [go_sem]) hcs.out (Nat.succ_pos _) (by simp) (by omega) hbw ?_; intro g cap w5 t5 b5; have hst := buf_string t5; rw [hq.out] at hst)
        go_wp2_with fail
        go_ret
        exact ⟨by rw [hfin.out]; rfl, hbl.trans b5⟩
end Go.Proofs.YtbcofimmfbmkoaaDoor
