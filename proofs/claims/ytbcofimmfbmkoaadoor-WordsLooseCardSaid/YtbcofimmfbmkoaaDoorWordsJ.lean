/- The walk of word of chapter 3. -/
import Derived.Test.YtbcofimmfbmkoaaDoorWordsI
import Derived.BigRegion
import Derived.Deep.RegionWith
import Derived.RegionTactic
import Derived.ChangeAlike
namespace Go.Proofs.YtbcofimmfbmkoaaDoor
open Go.RowKit Words3

theorem results_cell_tmp {fn : Func} {P : Program} {p u : Tmp} {ty : TypeId} (h : fn.results = #[.cell p ty, .tmp u]) (tmps : Array Value) (w : World) (g : Nat) (t : TypeId) (cs : Array Value) (fr : Nat × Nat) (d : TypeDesc)
    (hp : tmps.getD p undef = .pointer (some ⟨g, 0, none⟩)) (hg : w.heap[g]? = some (.cells cs t fr))
    (hu : P.underlying ty = some d) (hd : (match d with | .struct _ | .array _ _ => true | _ => false) = true) (hi : (P.info? ty).map (·.size) = some cs.size) :
    (results fn tmps).run P w = .ok (.tuple #[.agg cs, tmps.getD u undef]) w := by
  have hp' : tmps[p]?.getD undef = .pointer (some ⟨g, 0, none⟩) := by simpa using hp
  simp [results, h, hp', asAddr, Result.andThen, run_loadVar_row w g t ty cs fr d hg hu hd hi]
theorem sub_from (s : ByteArray) (i : Nat) (h2 : i ≤ s.size) (W : World) : (Instr.slice 9 (.string s) (some (.int .i64 (i : Int))) none none).run Tryd.prog W = .ok (.string ⟨(s.data.toList.drop i).toArray⟩) W := by
  have h := sub_str s i s.size h2 (Nat.le_refl _) W
  rw [List.take_of_length_le (by rw [List.length_drop, bytes_len]; exact Nat.le_refl _)] at h
  rw [← h, run_slice_string W _ _ _ _ _ _ Tryd.underlying9 (by omega) (by omega) (by omega), run_slice_string_from_if (h := Tryd.underlying9), if_pos ⟨by omega, by omega⟩]
  simp
theorem indexByte_idx (c : UInt8) : ∀ l : List UInt8, Lib.indexByte l c = if idx c l < l.length then (idx c l : Int) else -1
  | [] => by simp [Lib.indexByte]
  | b :: l => by
    have ih := indexByte_idx c l
    have hle := idx_le c l
    unfold Lib.indexByte
    by_cases hb : b = c
    · subst hb
      have e : idx b (b :: l) = 0 := idx_eq b _ 0 (by simp) (fun _ => rfl) (fun j _ h => absurd h (by omega))
      rw [if_pos (by simp), e, if_pos (by simp)]; rfl
    · have e : idx c (b :: l) = idx c l + 1 := by
        unfold idx tw
        rw [List.takeWhile_cons_of_pos (by simpa using hb)]; rfl
      rw [if_neg (by simpa using hb), e, List.length_cons]
      by_cases h : idx c l < l.length
      · rw [if_pos h] at ih
        rw [ih, if_neg (by rw [beq_iff_eq]; omega), if_pos (by omega)]; rfl
      · rw [if_neg h] at ih
        rw [ih]
        simp [show ¬ (idx c l < l.length) from h]
/-- What word hands back. -/
def WPost (x : WordR) (W : World) (b k : Nat) (s : ByteArray) (e : Ending) (w' : World) : Prop :=
  e = .returned (.tuple #[.agg #[.int .i64 (k : Int), .string ⟨x.key.toArray⟩, .string ⟨x.body.text.toArray⟩], .bool x.body.ok]) ∧ ∃ k', k' ≤ s.size ∧ Sc W b s k' w' ∧ (x.body.ok = true → k' = posOf s x.body.rest)
theorem cell3 {w : World} {b t : Nat} {x y z : Value} (h : w.heap[b]? = some (.cells #[x, y, z] t (0, 0))) : w.cell? ⟨b, 0, none⟩ = some x ∧ w.cell? ⟨b, 1, none⟩ = some y ∧ w.cell? ⟨b, 2, none⟩ = some z ∧ ∀ j, w.frozen? ⟨b, j, none⟩ = false := by
  refine ⟨by simp [World.cell?, h], by simp [World.cell?, h], by simp [World.cell?, h], fun j => by simp [World.frozen?, h]⟩
theorem cell_other {w : World} {b b' j j' : Nat} {x u : Value} (h : w.cell? ⟨b, j, none⟩ = some x) (hn : b ≠ b') : (w.setCell ⟨b', j', none⟩ u).cell? ⟨b, j, none⟩ = some x := by
  rw [World.cell?_setCell_other w _ _ _ (fun e => hn (by cases e; rfl))]; exact h
theorem heap_other {w : World} {b b' j' : Nat} {o : Obj} {u : Value} (h : w.heap[b]? = some o) (hn : b ≠ b') : (w.setCell ⟨b', j', none⟩ u).heap[b]? = some o := by
  rw [Below.heap_setCell _ _ _ _ hn]; exact h
theorem grow_set {W w : World} {r : Option Nat} {b j : Nat} {u : Value} (h : W.grownBy w r) (hb : W.heap.size ≤ b) : W.grownBy (w.setCell ⟨b, j, none⟩ u) r :=
  ⟨h.os, h.tape, h.output, Nat.le_trans h.size (by simp [World.setCell]), fun k hk hn => by rw [Below.heap_setCell _ _ _ _ (show k ≠ b by omega)]; exact h.block k hk hn⟩
theorem grow_d {W w : World} {r : Option Nat} (h : W.grownBy w r) : W.grownBy w.drew r := ⟨h.os, h.tape, h.output, h.size, h.block⟩
theorem store3 {W : World} {br t : Nat} {a0 b0 c0 x y z : Value} (h : W.heap[br]? = some (.cells #[a0, b0, c0] t (0, 0))) :
    (((W.setCell ⟨br, 0, none⟩ x).setCell ⟨br, 1, none⟩ y).setCell ⟨br, 2, none⟩ z).heap[br]? = some (.cells #[x, y, z] t (0, 0)) ∧
    (∀ (k : Nat) (o : Obj), W.heap[k]? = some o → k ≠ br → (((W.setCell ⟨br, 0, none⟩ x).setCell ⟨br, 1, none⟩ y).setCell ⟨br, 2, none⟩ z).heap[k]? = some o) ∧
    ∀ (r : Option Nat) (W0 : World), W0.grownBy W r → W0.heap.size ≤ br → W0.grownBy (((W.setCell ⟨br, 0, none⟩ x).setCell ⟨br, 1, none⟩ y).setCell ⟨br, 2, none⟩ z) r :=
  ⟨Lib.heap_setCell_same (i := 2) (Lib.heap_setCell_same (i := 1) (Lib.heap_setCell_same (i := 0) h x) y) z, fun _k _o ho hn => heap_other (heap_other (heap_other ho hn) hn) hn, fun _r _W0 hg hl => grow_set (grow_set (grow_set hg hl) hl) hl⟩
theorem alloc2' (w : World) (a b : Obj) : ((w.alloc a).alloc b).heap[w.heap.size]? = some a ∧ ((w.alloc a).alloc b).heap[w.heap.size + 1]? = some b ∧ ((w.alloc a).alloc b).heap.size = w.heap.size + 2 ∧ Below w.heap.size w ((w.alloc a).alloc b) := alloc2 w a b

set_option maxHeartbeats 4000000 in
set_option maxRecDepth 100000 in
theorem word_any (W : World) (b k : Nat) (s : ByteArray) (hs : s.size ≤ 100000) (h : Scn W b s k) (hk : k ≤ s.size) (x : WordR) (hx : wordF (s.data.toList.drop k) = x) :
    Calls Tryd.prog 48 #[.pointer (some ⟨b, 0, none⟩)] W fun e w' => WPost x W b k s e w' := by
  have c0 := h.c0
  have c1 := h.c1
  have H := Lib.hid h
  have hbW := h.lt
  obtain ⟨a1, a2, a3, a4⟩ := alloc2' W (.cells #[.int .i64 0, .string ⟨#[]⟩, .string ⟨#[]⟩] 46) (.cells #[.int .i64 (k : Int), .string ⟨#[]⟩, .string ⟨#[]⟩] 46)
  have HA := Lib.hid (And.intro a1 (And.intro a2 (And.intro a3 a4)))
  clear a1 a2 a3 a4 h
  go_enter Tryd.func48, Tryd.ntmps48
  go_wp2_with fail
  have k0 := heap_below (show W.heap[b]? = _ from H.out) HA.out.2.2.2
  have hG2 := Lib.hid (grow_of_below (r := some b) HA.out.2.2.2)
  obtain ⟨bw, hbw⟩ : ∃ bw, bw = W.heap.size + 1 := ⟨_, rfl⟩
  obtain ⟨br, hbr⟩ : ∃ br, br = W.heap.size := ⟨_, rfl⟩
  have W1 := HA.out
  rw [← hbw, ← hbr] at W1
  rw [← hbw, ← hbr]
  have n1 : b ≠ bw := by omega
  have n2 : b ≠ br := by omega
  have n3 : bw ≠ br := by omega
  have n4 : W.heap.size ≤ bw ∧ W.heap.size ≤ br := by omega
  clear hbw hbr HA hbW
  generalize World.alloc (World.alloc W _) _ = W2 at *
  obtain ⟨a1, a2, a3, a4⟩ := W1
  have S2 : Scn W2 b s k := k0
  have HS := Lib.hid S2
  have Ha1 := Lib.hid a1
  have Ha2 := Lib.hid a2
  have Ha4 := Lib.hid a4
  clear k0 S2 a1 a2 a3 a4 c0 c1
  have d0 := HS.out.c0
  have d1 := HS.out.c1
  have hsub := sub_from s k hk
  have hk0 : (0 : Int) ≤ (k : Int) := by omega
  have hk1 : (k : Int) ≤ s.size := by omega
  obtain ⟨L, hL⟩ : ∃ L, L = s.data.toList.drop k := ⟨_, rfl⟩
  have hLl : L.length = s.size - k := by rw [hL, List.length_drop, bytes_len]
  have HI := Lib.hid (fun W => Tryd.strings_IndexByte ⟨L.toArray⟩ 61 W)
  rw [show ((61 : Int).toNat.toUInt8) = 61 from rfl, show (⟨L.toArray⟩ : ByteArray).data.toList = L from rfl] at HI
  simp only [indexByte_idx] at HI
  have hxx := Lib.hid hx
  clear hx
  rw [← hL] at hsub hxx
  have hH := Lib.hid hL
  clear hL
  have hfinish : ∀ (key : List UInt8) (y : Body) (e : Ending) (w' : World), x = ⟨key, ⟨y.text, y.ok && endB y.rest, y.rest⟩⟩ → ∀ k', k' ≤ s.size → Sc W b s k' w' → (y.ok = true → k' = posOf s y.rest) → e = .returned (.tuple #[.agg #[.int .i64 (k : Int), .string ⟨key.toArray⟩, .string ⟨y.text.toArray⟩], .bool (y.ok && endB y.rest)]) → WPost x W b k s e w' := by
    intro key y e w' he k' h1 h2 h3 h4
    rw [he]
    exact ⟨h4, k', h1, h2, fun h => h3 (by rw [Bool.and_eq_true] at h; exact h.1)⟩
  have HF := Lib.hid hfinish
  clear hfinish
  by_cases hi : idx 61 L < L.length
  · simp only [if_pos hi] at HI
    have hsub2 : ∀ W, (Instr.slice 9 (.string s) (some (.int .i64 (k : Int))) (some (.int .i64 ((k : Int) + (idx 61 L : Int)))) none).run Tryd.prog W = .ok (.string ⟨(L.take (idx 61 L)).toArray⟩) W := fun W => by
      rw [show (k : Int) + (idx 61 L : Int) = ((k + idx 61 L : Nat) : Int) by omega, hH.out]
      have := sub_str s k (k + idx 61 (s.data.toList.drop k)) (by omega) (by rw [← hH.out]; omega) W
      rw [show k + idx 61 (s.data.toList.drop k) - k = idx 61 (s.data.toList.drop k) by omega] at this
      exact this
    have HX : x = ⟨if nameB (L.take (idx 61 L)) = true then L.take (idx 61 L) else [], ⟨(bodyF (if nameB (L.take (idx 61 L)) = true then s.data.toList.drop (k + idx 61 L + 1) else s.data.toList.drop k)).text, (bodyF (if nameB (L.take (idx 61 L)) = true then s.data.toList.drop (k + idx 61 L + 1) else s.data.toList.drop k)).ok && endB (bodyF (if nameB (L.take (idx 61 L)) = true then s.data.toList.drop (k + idx 61 L + 1) else s.data.toList.drop k)).rest, (bodyF (if nameB (L.take (idx 61 L)) = true then s.data.toList.drop (k + idx 61 L + 1) else s.data.toList.drop k)).rest⟩⟩ := by
      rw [← hxx.out]
      unfold wordF Words3.keyOf fromOf hasKey
      rw [decide_eq_true hi, Bool.true_and]
      have e1 : L.drop (idx 61 L + 1) = s.data.toList.drop (k + idx 61 L + 1) := by rw [hH.out, List.drop_drop, Nat.add_assoc]
      rw [e1]
      by_cases hn : nameB (L.take (idx 61 L)) = true
      · simp only [if_pos hn]
      · simp only [hH.out]
    have HNm := Lib.hid (fun W => Name_any ⟨(L.take (idx 61 L)).toArray⟩ (show (L.take (idx 61 L)).length ≤ 1000000 by rw [List.length_take]; omega) W)
    have hil : k + idx 61 L + 1 ≤ s.size := by omega
    have HXh := Lib.hid HX
    clear HX hxx
    generalize L.take (idx 61 L) = K at *
    generalize idx 61 L = i at *
    have hi0 : (0 : Int) ≤ (i : Int) := by omega
    have hw1 : IntKind.i64.wrap ((k : Int) + (i : Int)) = (k : Int) + (i : Int) := by rw [IntKind.wrap_i64]; omega
    clear hi
    go_quiet ((go_at_call 59; exact Calls.quiet_of_same (HI.out _)))
    have hS5 := Lib.hid (HS.out.drewN nq)
    have hA1 := Lib.hid (show (W2.drewN nq).heap[br]? = _ from (heap_drewN W2 nq br).trans Ha1.out)
    have hA2 := Lib.hid (show (W2.drewN nq).heap[bw]? = _ from (heap_drewN W2 nq bw).trans Ha2.out)
    have hG5 := Lib.hid (grow_trans hG2.out (grow_drew W2 nq (some b)))
    clear Ha1 Ha2 Ha4 HS d0 d1 hsub HI hG2
    generalize W2.drewN nq = W5 at *
    have d0 := hS5.out.c0
    have d1 := hS5.out.c1
    go_wp2_with fail
    have HN2 := Lib.hid (fun W => show Calls Tryd.prog 21 #[.string ⟨K.toArray⟩] W fun e w' => e = .returned (.bool (nameB K)) ∧ Below W.heap.size W w' from HNm.out W)
    cases hn : nameB K with
    | true =>
      rw [hn] at HN2 HXh
      have hKX := Lib.hid hn
      clear hn HNm
      go_region_held3 (fun V => V.cell? ⟨b, 0, none⟩ = some (.string s) ∧ V.cell? ⟨b, 1, none⟩ = some (.int .i64 (k : Int)))
        (first | exact ⟨d0, d1⟩ | exact ⟨e0, e1⟩)
        ((go_at_call 21; refine (HN2.out _).mono ?_; rintro e w6 ⟨rfl, b6⟩; have e0 := cell_below b6 (show W5.drew.cell? _ = _ from d0); have e1 := cell_below b6 (show W5.drew.cell? _ = _ from d1)))
      have hb6 : Below W5.heap.size W5 w6 := (Below.refl _ W5).drew.trans b6
      have hS6 := Lib.hid (hS5.out.below hb6 hS5.out.lt)
      have hA16 := Lib.hid (heap_below hA1.out hb6)
      have hA26 := Lib.hid (heap_below hA2.out hb6)
      have hG6 := Lib.hid (grow_below hG5.out (hb6.mono hG5.out.size))
      clear b6 hb6 d0 d1 hS5 hA1 hA2 hG5 e0 e1
      go_wp2_with fail
      have d0 := hS6.out.c0
      have d1 := hS6.out.c1
      obtain ⟨_, x1, _, fz⟩ := cell3 hA26.out
      have f1 := fz 1
      clear fz
      go_region_held3 (fun V => V.cell? ⟨b, 0, none⟩ = some (.string s) ∧ V.cell? ⟨b, 1, none⟩ = some (.int .i64 (k : Int)))
        (first | exact ⟨d0, d1⟩ | exact ⟨cell_other d0 n1, cell_other d1 n1⟩)
        (fail)
      have hS7 := Lib.hid (show Scn (w6.setCell ⟨bw, 1, none⟩ (.string ⟨K.toArray⟩)).drew b s k from heap_other hS6.out n1)
      have hA17 := Lib.hid (show (w6.setCell ⟨bw, 1, none⟩ (.string ⟨K.toArray⟩)).drew.heap[br]? = _ from heap_other hA16.out n3.symm)
      have hA27 := Lib.hid (show (w6.setCell ⟨bw, 1, none⟩ (.string ⟨K.toArray⟩)).drew.heap[bw]? = some (.cells #[.int .i64 (k : Int), .string ⟨K.toArray⟩, .string ⟨#[]⟩] 46 (0, 0)) from Lib.heap_setCell_same (i := 1) hA26.out _)
      have hG7 := Lib.hid (show W.grownBy (w6.setCell ⟨bw, 1, none⟩ (.string ⟨K.toArray⟩)).drew (some b) from grow_d (grow_set hG6.out n4.1))
      clear d0 d1 x1 f1 hS6 hA16 hA26 hG6
      generalize World.drew _ = W7 at *
      have d1 := hS7.out.c1
      have f1 := hS7.out.f1
      have hS8 := Lib.hid (set_at hS7.out (k + i + 1))
      have hA18 := Lib.hid (heap_other (u := .int .i64 ((k + i + 1 : Nat) : Int)) (j' := 1) hA17.out n2.symm)
      have hA28 := Lib.hid (heap_other (u := .int .i64 ((k + i + 1 : Nat) : Int)) (j' := 1) hA27.out n1.symm)
      have hG8 := Lib.hid (grow_trans hG7.out (grown_cell W7 b 1 (.int .i64 ((k + i + 1 : Nat) : Int))))
      rw [show (((k + i + 1 : Nat) : Int)) = (k : Int) + ((i : Int) + 1) by omega] at hS8 hA18 hA28 hG8
      go_upto_region 6 with (fail)
      clear d1 f1 hS7 hA17 hA27 hG7
      generalize World.setCell _ _ _ = W8 at *
      obtain ⟨y, hy⟩ : ∃ y, bodyF (s.data.toList.drop (k + i + 1)) = y := ⟨_, rfl⟩
      have he : x = ⟨K, ⟨y.text, y.ok && endB y.rest, y.rest⟩⟩ := by rw [← hy]; have := HXh.out; simpa using this
      have HB := Lib.hid (body_any _ b (k + i + 1) s hs hS8.out (by omega) y hy)
      have hrr := Lib.hid (bodyF_rest' s (k + i + 1) (by omega) y hy)
      have HF2 := Lib.hid (HF.out K y)
      have heH := Lib.hid he
      clear he hy
      generalize K = KK at *
      go_wp2_with fail
      refine HB.out.mono ?_
      rintro e w9 hbp
      obtain ⟨rfl, k', hk', s9, hp⟩ := (show BPost y _ b s e w9 from hbp)
      have hS9 := Lib.hid s9.box
      have hA19 := Lib.hid ((s9.grow.block br (Array.getElem?_eq_some_iff.1 hA18.out).1 (fun e => n2 (Option.some.inj e).symm)).trans hA18.out)
      have hA29 := Lib.hid ((s9.grow.block bw (Array.getElem?_eq_some_iff.1 hA28.out).1 (fun e => n1 (Option.some.inj e).symm)).trans hA28.out)
      have hG9 := Lib.hid (grow_trans hG8.out s9.grow)
      have hpH := Lib.hid hp
      clear s9 hp hbp
      obtain ⟨_, _, x2, fz⟩ := cell3 hA29.out
      have f2 := fz 2
      clear fz
      have hS10 := Lib.hid (heap_other (u := .string ⟨y.text.toArray⟩) (j' := 2) hS9.out n1)
      have hA110 := Lib.hid (heap_other (u := .string ⟨y.text.toArray⟩) (j' := 2) hA19.out n3.symm)
      have hA210 := Lib.hid (show (w9.setCell ⟨bw, 2, none⟩ (.string ⟨y.text.toArray⟩)).heap[bw]? = some (.cells #[.int .i64 (k : Int), .string ⟨KK.toArray⟩, .string ⟨y.text.toArray⟩] 46 (0, 0)) from Lib.heap_setCell_same (i := 2) hA29.out _)
      have hG10 := Lib.hid (grow_set (u := .string ⟨y.text.toArray⟩) (j := 2) hG9.out n4.1)
      go_upto_region 8 with (fail)
      clear x2 f2 hS9 hA19 hA29 hG9
      generalize World.setCell _ _ _ = WA at *
      have hS10' : Scn WA b s k' := hS10.out
      obtain ⟨t, ok, rest⟩ := y
      dsimp only at *
      obtain ⟨y0, y1, y2, _⟩ := cell3 hA210.out
      obtain ⟨z0, z1, z2, fz⟩ := cell3 hA110.out
      have g0 := fz 0
      have g1 := fz 1
      have g2 := fz 2
      clear fz
      cases ok with
      | false =>
        go_region
        all_goals
          obtain ⟨e1, e2, e3⟩ := store3 (x := .int .i64 (k : Int)) (y := .string ⟨KK.toArray⟩) (z := .string ⟨t.toArray⟩) hA110.out
          have gW := Lib.hid (grow_d (e3 (some b) W hG10.out n4.2))
          have hS2 := Lib.hid (e2 _ _ hS10.out n2)
          go_wp2_with fail
          refine bodyPost_ret (results_cell_tmp rfl _ _ br _ _ _ _ rfl e1 Tryd.underlying46 rfl (by kernel_rfl)) rfl ?_
          exact HF2.out _ _ heH.out k' hk' ⟨hS2.out, gW.out⟩ (fun h => by cases h) rfl
      | true =>
        obtain ⟨j, hrest, hj1, hj2⟩ := hrr.out rfl
        obtain rfl : k' = j := by have := hpH.out rfl; rw [this, hrest]; exact posOf_drop s j hj2
        have hrH := Lib.hid hrest
        clear hrest hrr
        have u0 := hS10'.c0
        have u1 := hS10'.c1
        have v0 : (0 : Int) ≤ (k' : Int) := by omega
        rcases Nat.lt_or_ge k' s.size with hlt | hge
        · have hlt' : (k' : Int) < s.size := by omega
          obtain ⟨B, hBe⟩ : ∃ B, endB rest = B := ⟨_, rfl⟩
          have hcmp : ((s[k'].toNat : Int) == 32) = B := by
            rw [← hBe, hrH.out, drop_getz s k' hlt]
            have := u8_beq s[k'] 32
            rw [getz_get s k' hlt] at this
            rw [getz_get s k' hlt]
            exact this
          have hBH := Lib.hid hBe
          clear hBe
          have HMr := Lib.hid (fun W h => more_yes W b k' s h hlt)
          refine wp_region_held_drew (S := fun V => V.heap[bw]? = some (.cells #[.int .i64 (k : Int), .string ⟨KK.toArray⟩, .string ⟨t.toArray⟩] 46 (0, 0)) ∧ Scn V b s k') (by kernel_rfl) ⟨hA210.out, hS10'⟩ (fun hS0 => ?_)
          refine wpAnyH_take (i := 0) (v := .agg #[.int .i64 (k : Int), .string ⟨KK.toArray⟩, .string ⟨t.toArray⟩]) rfl (by kernel_rfl) (by kernel_rfl) (by kernel_rfl) (fun _ _ _ h => h) (Or.inl ⟨by kernel_rfl, fun V hV => ?_⟩) hS0 ?_
          · obtain ⟨p0, p1, p2, _⟩ := cell3 hV.1
            go_simp
          refine wpAnyH_take (i := 1) (v := .bool true) rfl (by kernel_rfl) (by kernel_rfl) (by kernel_rfl) (fun _ _ _ h => h) (Or.inl ⟨by kernel_rfl, fun V hV => ?_⟩) hS0 ?_
          · go_simp
          refine wpAnyH_take (i := 2) (v := .bool true) rfl (by kernel_rfl) (by kernel_rfl) (by kernel_rfl) (fun _ _ _ h => h) (Or.inl ⟨by kernel_rfl, fun V hV => ?_⟩) hS0 ?_
          · go_simp
          refine wpAnyH_take (i := 3) (v := .pointer (some ⟨b, 0, none⟩)) rfl (by kernel_rfl) (by kernel_rfl) (by kernel_rfl) (fun _ _ _ h => h) (Or.inl ⟨by kernel_rfl, fun V hV => ?_⟩) hS0 ?_
          · go_simp
          refine wpAnyH_ready (rs := [4]) (by kernel_rfl) (by simp) ?_
          refine AllReadyH.cons rfl (fun K' hK => ?_) AllReadyH.nil
          rw [if_pos (by kernel_rfl)]
          go_simp
          go_wp2_with fail
          refine (HMr.out _ hS0.2).mono ?_
          rintro e wB ⟨rfl, mm, hwB⟩
          have hB1 : wB.heap[bw]? = some (.cells #[.int .i64 (k : Int), .string ⟨KK.toArray⟩, .string ⟨t.toArray⟩] 46 (0, 0)) := (by rw [hwB]; exact (heap_drewN _ mm bw).trans hS0.1)
          have hB2 : Scn wB b s k' := (by rw [hwB]; exact hS0.2.drewN mm)
          have zz : wB.heap[br]? = some (.cells #[.int .i64 0, .string ⟨#[]⟩, .string ⟨#[]⟩] 46 (0, 0)) := by rw [hwB]; exact (heap_drewN _ mm br).trans hA110.out
          have gB := Lib.hid (show W.grownBy wB (some b) by rw [hwB]; exact grow_trans (grow_d hG10.out) (grow_drew _ mm _))
          clear hwB
          refine hK.out _ _ ⟨hB1, hB2⟩ (fun hS1 => ?_)
          clear hK K'
          refine wpAnyH_take (i := 5) (v := .bool false) rfl (by kernel_rfl) (by kernel_rfl) (by kernel_rfl) (fun _ _ _ h => h) (Or.inl ⟨by kernel_rfl, fun V hV => ?_⟩) hS1 ?_
          · go_simp
          refine wpAnyH_take (i := 6) (v := .bool false) rfl (by kernel_rfl) (by kernel_rfl) (by kernel_rfl) (fun _ _ _ h => h) (Or.inl ⟨by kernel_rfl, fun V hV => ?_⟩) hS1 ?_
          · go_simp
          refine wpAnyH_take (i := 7) (v := .pointer (some ⟨b, 0, none⟩)) rfl (by kernel_rfl) (by kernel_rfl) (by kernel_rfl) (fun _ _ _ h => h) (Or.inl ⟨by kernel_rfl, fun V hV => ?_⟩) hS1 ?_
          · go_simp
          refine wpAnyH_take (i := 8) (v := .pointer (some ⟨b, 0, none⟩)) rfl (by kernel_rfl) (by kernel_rfl) (by kernel_rfl) (fun _ _ _ h => h) (Or.inl ⟨by kernel_rfl, fun V hV => ?_⟩) hS1 ?_
          · go_simp
          refine wpAnyH_take (i := 9) (v := .pointer (some ⟨b, 0, none⟩)) rfl (by kernel_rfl) (by kernel_rfl) (by kernel_rfl) (fun _ _ _ h => h) (Or.inl ⟨by kernel_rfl, fun V hV => ?_⟩) hS1 ?_
          · go_simp
          refine wpAnyH_take (i := 10) (v := .string s) rfl (by kernel_rfl) (by kernel_rfl) (by kernel_rfl) (fun _ _ _ h => h) (Or.inl ⟨by kernel_rfl, fun V hV => ?_⟩) hS1 ?_
          · have p0 := hV.2.c0
            go_simp
          refine wpAnyH_take (i := 11) (v := .pointer (some ⟨b, 0, none⟩)) rfl (by kernel_rfl) (by kernel_rfl) (by kernel_rfl) (fun _ _ _ h => h) (Or.inl ⟨by kernel_rfl, fun V hV => ?_⟩) hS1 ?_
          · go_simp
          refine wpAnyH_take (i := 12) (v := .pointer (some ⟨b, 0, none⟩)) rfl (by kernel_rfl) (by kernel_rfl) (by kernel_rfl) (fun _ _ _ h => h) (Or.inl ⟨by kernel_rfl, fun V hV => ?_⟩) hS1 ?_
          · go_simp
          refine wpAnyH_take (i := 13) (v := .pointer (some ⟨b, 1, none⟩)) rfl (by kernel_rfl) (by kernel_rfl) (by kernel_rfl) (fun _ _ _ h => h) (Or.inl ⟨by kernel_rfl, fun V hV => ?_⟩) hS1 ?_
          · go_simp
          refine wpAnyH_take (i := 14) (v := .int .i64 (k' : Int)) rfl (by kernel_rfl) (by kernel_rfl) (by kernel_rfl) (fun _ _ _ h => h) (Or.inl ⟨by kernel_rfl, fun V hV => ?_⟩) hS1 ?_
          · have p0 := hV.2.c1
            go_simp
          refine wpAnyH_take (i := 15) (v := .int .u8 (s[k'].toNat : Int)) rfl (by kernel_rfl) (by kernel_rfl) (by kernel_rfl) (fun _ _ _ h => h) (Or.inl ⟨by kernel_rfl, fun V hV => ?_⟩) hS1 ?_
          · go_simp
          refine wpAnyH_take (i := 16) (v := .bool B) rfl (by kernel_rfl) (by kernel_rfl) (by kernel_rfl) (fun _ _ _ h => h) (Or.inl ⟨by kernel_rfl, fun V hV => ?_⟩) hS1 ?_
          · go_simp
          refine wpAnyH_take (i := 17) (v := .bool B) rfl (by kernel_rfl) (by kernel_rfl) (by kernel_rfl) (fun _ _ _ h => h) (Or.inl ⟨by kernel_rfl, fun V hV => ?_⟩) hS1 ?_
          · go_simp
          refine wpAnyH_take (i := 18) (v := .bool B) rfl (by kernel_rfl) (by kernel_rfl) (by kernel_rfl) (fun _ _ _ h => h) (Or.inl ⟨by kernel_rfl, fun V hV => ?_⟩) hS1 ?_
          · go_simp
          obtain ⟨z3, z4, z5, fz⟩ := cell3 zz
          have g3 := fz 0
          have g4 := fz 1
          have g5 := fz 2
          clear fz
          refine wpAnyH_ready (rs := [19]) (by kernel_rfl) (by simp) ?_
          refine AllReadyH.cons rfl (fun K' hK => ?_) AllReadyH.nil
          rw [if_pos (by kernel_rfl)]
          go_simp
          obtain ⟨e1, e2, e3⟩ := store3 (x := .int .i64 (k : Int)) (y := .string ⟨KK.toArray⟩) (z := .string ⟨t.toArray⟩) zz
          refine hK.out _ _ ⟨e2 _ _ hS1.1 n3, e2 _ _ hS1.2 n2⟩ (fun hS2 => ?_)
          clear hK K'
          refine wpAnyH_take (i := 20) (v := .bool B) rfl (by kernel_rfl) (by kernel_rfl) (by kernel_rfl) (fun _ _ _ h => h) (Or.inl ⟨by kernel_rfl, fun V hV => ?_⟩) hS2 ?_
          · go_simp
          refine wpAnyH_done (by kernel_rfl) ?_ _
          have gW := e3 (some b) W gB.out n4.2
          go_wp2_with fail
          refine bodyPost_ret (results_cell_tmp rfl _ _ br _ _ _ _ rfl e1 Tryd.underlying46 rfl (by kernel_rfl)) rfl ?_
          exact HF2.out _ _ heH.out k' hk' ⟨hS2.2, gW⟩ (fun _ => hpH.out (by simp)) (by
            rw [hBH.out]; rfl)
        · have HMr := Lib.hid (fun W h => more_no W b k' s h hge)
          refine wp_region_held_drew (S := fun V => V.heap[bw]? = some (.cells #[.int .i64 (k : Int), .string ⟨KK.toArray⟩, .string ⟨t.toArray⟩] 46 (0, 0)) ∧ Scn V b s k') (by kernel_rfl) ⟨hA210.out, hS10'⟩ (fun hS0 => ?_)
          refine wpAnyH_take (i := 0) (v := .agg #[.int .i64 (k : Int), .string ⟨KK.toArray⟩, .string ⟨t.toArray⟩]) rfl (by kernel_rfl) (by kernel_rfl) (by kernel_rfl) (fun _ _ _ h => h) (Or.inl ⟨by kernel_rfl, fun V hV => ?_⟩) hS0 ?_
          · obtain ⟨p0, p1, p2, _⟩ := cell3 hV.1
            go_simp
          refine wpAnyH_take (i := 1) (v := .bool true) rfl (by kernel_rfl) (by kernel_rfl) (by kernel_rfl) (fun _ _ _ h => h) (Or.inl ⟨by kernel_rfl, fun V hV => ?_⟩) hS0 ?_
          · go_simp
          refine wpAnyH_take (i := 2) (v := .bool true) rfl (by kernel_rfl) (by kernel_rfl) (by kernel_rfl) (fun _ _ _ h => h) (Or.inl ⟨by kernel_rfl, fun V hV => ?_⟩) hS0 ?_
          · go_simp
          refine wpAnyH_take (i := 3) (v := .pointer (some ⟨b, 0, none⟩)) rfl (by kernel_rfl) (by kernel_rfl) (by kernel_rfl) (fun _ _ _ h => h) (Or.inl ⟨by kernel_rfl, fun V hV => ?_⟩) hS0 ?_
          · go_simp
          refine wpAnyH_ready (rs := [4]) (by kernel_rfl) (by simp) ?_
          refine AllReadyH.cons rfl (fun K' hK => ?_) AllReadyH.nil
          rw [if_pos (by kernel_rfl)]
          go_simp
          go_wp2_with fail
          refine (HMr.out _ hS0.2).mono ?_
          rintro e wB ⟨rfl, mm, hwB⟩
          have hB1 : wB.heap[bw]? = some (.cells #[.int .i64 (k : Int), .string ⟨KK.toArray⟩, .string ⟨t.toArray⟩] 46 (0, 0)) := (by rw [hwB]; exact (heap_drewN _ mm bw).trans hS0.1)
          have hB2 : Scn wB b s k' := (by rw [hwB]; exact hS0.2.drewN mm)
          have zz : wB.heap[br]? = some (.cells #[.int .i64 0, .string ⟨#[]⟩, .string ⟨#[]⟩] 46 (0, 0)) := by rw [hwB]; exact (heap_drewN _ mm br).trans hA110.out
          have gB := Lib.hid (show W.grownBy wB (some b) by rw [hwB]; exact grow_trans (grow_d hG10.out) (grow_drew _ mm _))
          clear hwB
          refine hK.out _ _ ⟨hB1, hB2⟩ (fun hS1 => ?_)
          clear hK K'
          refine wpAnyH_take (i := 5) (v := .bool true) rfl (by kernel_rfl) (by kernel_rfl) (by kernel_rfl) (fun _ _ _ h => h) (Or.inl ⟨by kernel_rfl, fun V hV => ?_⟩) hS1 ?_
          · go_simp
          refine wpAnyH_take (i := 6) (v := .bool true) rfl (by kernel_rfl) (by kernel_rfl) (by kernel_rfl) (fun _ _ _ h => h) (Or.inl ⟨by kernel_rfl, fun V hV => ?_⟩) hS1 ?_
          · go_simp
          refine wpAnyH_take (i := 7) (v := undef) rfl (by kernel_rfl) (by kernel_rfl) (by kernel_rfl) (fun _ _ _ h => h) (Or.inr ⟨by kernel_rfl, rfl⟩) hS1 ?_
          refine wpAnyH_take (i := 8) (v := undef) rfl (by kernel_rfl) (by kernel_rfl) (by kernel_rfl) (fun _ _ _ h => h) (Or.inr ⟨by kernel_rfl, rfl⟩) hS1 ?_
          refine wpAnyH_take (i := 9) (v := undef) rfl (by kernel_rfl) (by kernel_rfl) (by kernel_rfl) (fun _ _ _ h => h) (Or.inr ⟨by kernel_rfl, rfl⟩) hS1 ?_
          refine wpAnyH_take (i := 10) (v := undef) rfl (by kernel_rfl) (by kernel_rfl) (by kernel_rfl) (fun _ _ _ h => h) (Or.inr ⟨by kernel_rfl, rfl⟩) hS1 ?_
          refine wpAnyH_take (i := 11) (v := undef) rfl (by kernel_rfl) (by kernel_rfl) (by kernel_rfl) (fun _ _ _ h => h) (Or.inr ⟨by kernel_rfl, rfl⟩) hS1 ?_
          refine wpAnyH_take (i := 12) (v := undef) rfl (by kernel_rfl) (by kernel_rfl) (by kernel_rfl) (fun _ _ _ h => h) (Or.inr ⟨by kernel_rfl, rfl⟩) hS1 ?_
          refine wpAnyH_take (i := 13) (v := undef) rfl (by kernel_rfl) (by kernel_rfl) (by kernel_rfl) (fun _ _ _ h => h) (Or.inr ⟨by kernel_rfl, rfl⟩) hS1 ?_
          refine wpAnyH_take (i := 14) (v := undef) rfl (by kernel_rfl) (by kernel_rfl) (by kernel_rfl) (fun _ _ _ h => h) (Or.inr ⟨by kernel_rfl, rfl⟩) hS1 ?_
          refine wpAnyH_take (i := 15) (v := undef) rfl (by kernel_rfl) (by kernel_rfl) (by kernel_rfl) (fun _ _ _ h => h) (Or.inr ⟨by kernel_rfl, rfl⟩) hS1 ?_
          refine wpAnyH_take (i := 16) (v := undef) rfl (by kernel_rfl) (by kernel_rfl) (by kernel_rfl) (fun _ _ _ h => h) (Or.inr ⟨by kernel_rfl, rfl⟩) hS1 ?_
          refine wpAnyH_take (i := 17) (v := .bool true) rfl (by kernel_rfl) (by kernel_rfl) (by kernel_rfl) (fun _ _ _ h => h) (Or.inl ⟨by kernel_rfl, fun V hV => ?_⟩) hS1 ?_
          · go_simp
          refine wpAnyH_take (i := 18) (v := .bool true) rfl (by kernel_rfl) (by kernel_rfl) (by kernel_rfl) (fun _ _ _ h => h) (Or.inl ⟨by kernel_rfl, fun V hV => ?_⟩) hS1 ?_
          · go_simp
          obtain ⟨z3, z4, z5, fz⟩ := cell3 zz
          have g3 := fz 0
          have g4 := fz 1
          have g5 := fz 2
          clear fz
          refine wpAnyH_ready (rs := [19]) (by kernel_rfl) (by simp) ?_
          refine AllReadyH.cons rfl (fun K' hK => ?_) AllReadyH.nil
          rw [if_pos (by kernel_rfl)]
          go_simp
          obtain ⟨e1, e2, e3⟩ := store3 (x := .int .i64 (k : Int)) (y := .string ⟨KK.toArray⟩) (z := .string ⟨t.toArray⟩) zz
          refine hK.out _ _ ⟨e2 _ _ hS1.1 n3, e2 _ _ hS1.2 n2⟩ (fun hS2 => ?_)
          clear hK K'
          refine wpAnyH_take (i := 20) (v := .bool true) rfl (by kernel_rfl) (by kernel_rfl) (by kernel_rfl) (fun _ _ _ h => h) (Or.inl ⟨by kernel_rfl, fun V hV => ?_⟩) hS2 ?_
          · go_simp
          refine wpAnyH_done (by kernel_rfl) ?_ _
          have gW := e3 (some b) W gB.out n4.2
          go_wp2_with fail
          refine bodyPost_ret (results_cell_tmp rfl _ _ br _ _ _ _ rfl e1 Tryd.underlying46 rfl (by kernel_rfl)) rfl ?_
          exact HF2.out _ _ heH.out k' hk' ⟨hS2.2, gW⟩ (fun _ => hpH.out (by simp)) (by
            have hE : endB rest = true := by rw [hrH.out, drop_end s k' hge]; rfl
            rw [hE]; rfl)
    | false =>
      rw [hn] at HN2 HXh
      clear hn HNm
      go_region_held3 (fun V => V.cell? ⟨b, 0, none⟩ = some (.string s) ∧ V.cell? ⟨b, 1, none⟩ = some (.int .i64 (k : Int)))
        (first | exact ⟨d0, d1⟩ | exact ⟨e0, e1⟩)
        ((go_at_call 21; refine (HN2.out _).mono ?_; rintro e w6 ⟨rfl, b6⟩; have e0 := cell_below b6 (show W5.drew.cell? _ = _ from d0); have e1 := cell_below b6 (show W5.drew.cell? _ = _ from d1)))
      have hb6 : Below W5.heap.size W5 w6 := (Below.refl _ W5).drew.trans b6
      obtain ⟨KK, hKK⟩ : ∃ KK : List UInt8, KK = [] := ⟨_, rfl⟩
      have hS8 := Lib.hid (hS5.out.below hb6 hS5.out.lt)
      have hA18 := Lib.hid (heap_below hA1.out hb6)
      have hA28 := Lib.hid (show w6.heap[bw]? = some (.cells #[.int .i64 (k : Int), .string ⟨KK.toArray⟩, .string ⟨#[]⟩] 46 (0, 0)) by rw [hKK]; exact heap_below hA2.out hb6)
      have hG8 := Lib.hid (grow_below hG5.out (hb6.mono hG5.out.size))
      clear b6 hb6 d0 d1 hS5 hA1 hA2 hG5 e0 e1
      obtain ⟨y, hy⟩ : ∃ y, bodyF (s.data.toList.drop k) = y := ⟨_, rfl⟩
      have he : x = ⟨KK, ⟨y.text, y.ok && endB y.rest, y.rest⟩⟩ := by rw [← hy, hKK]; have := HXh.out; simpa using this
      have HB := Lib.hid (body_any _ b k s hs hS8.out (by omega) y hy)
      have hrr := Lib.hid (bodyF_rest' s k (by omega) y hy)
      have HF2 := Lib.hid (HF.out KK y)
      have heH := Lib.hid he
      clear he hy hKK
      go_wp2_with fail
      refine HB.out.mono ?_
      rintro e w9 hbp
      obtain ⟨rfl, k', hk', s9, hp⟩ := (show BPost y _ b s e w9 from hbp)
      have hS9 := Lib.hid s9.box
      have hA19 := Lib.hid ((s9.grow.block br (Array.getElem?_eq_some_iff.1 hA18.out).1 (fun e => n2 (Option.some.inj e).symm)).trans hA18.out)
      have hA29 := Lib.hid ((s9.grow.block bw (Array.getElem?_eq_some_iff.1 hA28.out).1 (fun e => n1 (Option.some.inj e).symm)).trans hA28.out)
      have hG9 := Lib.hid (grow_trans hG8.out s9.grow)
      have hpH := Lib.hid hp
      clear s9 hp hbp
      obtain ⟨_, _, x2, fz⟩ := cell3 hA29.out
      have f2 := fz 2
      clear fz
      have hS10 := Lib.hid (heap_other (u := .string ⟨y.text.toArray⟩) (j' := 2) hS9.out n1)
      have hA110 := Lib.hid (heap_other (u := .string ⟨y.text.toArray⟩) (j' := 2) hA19.out n3.symm)
      have hA210 := Lib.hid (show (w9.setCell ⟨bw, 2, none⟩ (.string ⟨y.text.toArray⟩)).heap[bw]? = some (.cells #[.int .i64 (k : Int), .string ⟨KK.toArray⟩, .string ⟨y.text.toArray⟩] 46 (0, 0)) from Lib.heap_setCell_same (i := 2) hA29.out _)
      have hG10 := Lib.hid (grow_set (u := .string ⟨y.text.toArray⟩) (j := 2) hG9.out n4.1)
      go_upto_region 8 with (fail)
      clear x2 f2 hS9 hA19 hA29 hG9
      generalize World.setCell _ _ _ = WA at *
      have hS10' : Scn WA b s k' := hS10.out
      obtain ⟨t, ok, rest⟩ := y
      dsimp only at *
      obtain ⟨y0, y1, y2, _⟩ := cell3 hA210.out
      obtain ⟨z0, z1, z2, fz⟩ := cell3 hA110.out
      have g0 := fz 0
      have g1 := fz 1
      have g2 := fz 2
      clear fz
      cases ok with
      | false =>
        go_region
        all_goals
          obtain ⟨e1, e2, e3⟩ := store3 (x := .int .i64 (k : Int)) (y := .string ⟨KK.toArray⟩) (z := .string ⟨t.toArray⟩) hA110.out
          have gW := Lib.hid (grow_d (e3 (some b) W hG10.out n4.2))
          have hS2 := Lib.hid (e2 _ _ hS10.out n2)
          go_wp2_with fail
          refine bodyPost_ret (results_cell_tmp rfl _ _ br _ _ _ _ rfl e1 Tryd.underlying46 rfl (by kernel_rfl)) rfl ?_
          exact HF2.out _ _ heH.out k' hk' ⟨hS2.out, gW.out⟩ (fun h => by cases h) rfl
      | true =>
        obtain ⟨j, hrest, hj1, hj2⟩ := hrr.out rfl
        obtain rfl : k' = j := by have := hpH.out rfl; rw [this, hrest]; exact posOf_drop s j hj2
        have hrH := Lib.hid hrest
        clear hrest hrr
        have u0 := hS10'.c0
        have u1 := hS10'.c1
        have v0 : (0 : Int) ≤ (k' : Int) := by omega
        rcases Nat.lt_or_ge k' s.size with hlt | hge
        · have hlt' : (k' : Int) < s.size := by omega
          obtain ⟨B, hBe⟩ : ∃ B, endB rest = B := ⟨_, rfl⟩
          have hcmp : ((s[k'].toNat : Int) == 32) = B := by
            rw [← hBe, hrH.out, drop_getz s k' hlt]
            have := u8_beq s[k'] 32
            rw [getz_get s k' hlt] at this
            rw [getz_get s k' hlt]
            exact this
          have hBH := Lib.hid hBe
          clear hBe
          have HMr := Lib.hid (fun W h => more_yes W b k' s h hlt)
          refine wp_region_held_drew (S := fun V => V.heap[bw]? = some (.cells #[.int .i64 (k : Int), .string ⟨KK.toArray⟩, .string ⟨t.toArray⟩] 46 (0, 0)) ∧ Scn V b s k') (by kernel_rfl) ⟨hA210.out, hS10'⟩ (fun hS0 => ?_)
          refine wpAnyH_take (i := 0) (v := .agg #[.int .i64 (k : Int), .string ⟨KK.toArray⟩, .string ⟨t.toArray⟩]) rfl (by kernel_rfl) (by kernel_rfl) (by kernel_rfl) (fun _ _ _ h => h) (Or.inl ⟨by kernel_rfl, fun V hV => ?_⟩) hS0 ?_
          · obtain ⟨p0, p1, p2, _⟩ := cell3 hV.1
            go_simp
          refine wpAnyH_take (i := 1) (v := .bool true) rfl (by kernel_rfl) (by kernel_rfl) (by kernel_rfl) (fun _ _ _ h => h) (Or.inl ⟨by kernel_rfl, fun V hV => ?_⟩) hS0 ?_
          · go_simp
          refine wpAnyH_take (i := 2) (v := .bool true) rfl (by kernel_rfl) (by kernel_rfl) (by kernel_rfl) (fun _ _ _ h => h) (Or.inl ⟨by kernel_rfl, fun V hV => ?_⟩) hS0 ?_
          · go_simp
          refine wpAnyH_take (i := 3) (v := .pointer (some ⟨b, 0, none⟩)) rfl (by kernel_rfl) (by kernel_rfl) (by kernel_rfl) (fun _ _ _ h => h) (Or.inl ⟨by kernel_rfl, fun V hV => ?_⟩) hS0 ?_
          · go_simp
          refine wpAnyH_ready (rs := [4]) (by kernel_rfl) (by simp) ?_
          refine AllReadyH.cons rfl (fun K' hK => ?_) AllReadyH.nil
          rw [if_pos (by kernel_rfl)]
          go_simp
          go_wp2_with fail
          refine (HMr.out _ hS0.2).mono ?_
          rintro e wB ⟨rfl, mm, hwB⟩
          have hB1 : wB.heap[bw]? = some (.cells #[.int .i64 (k : Int), .string ⟨KK.toArray⟩, .string ⟨t.toArray⟩] 46 (0, 0)) := (by rw [hwB]; exact (heap_drewN _ mm bw).trans hS0.1)
          have hB2 : Scn wB b s k' := (by rw [hwB]; exact hS0.2.drewN mm)
          have zz : wB.heap[br]? = some (.cells #[.int .i64 0, .string ⟨#[]⟩, .string ⟨#[]⟩] 46 (0, 0)) := by rw [hwB]; exact (heap_drewN _ mm br).trans hA110.out
          have gB := Lib.hid (show W.grownBy wB (some b) by rw [hwB]; exact grow_trans (grow_d hG10.out) (grow_drew _ mm _))
          clear hwB
          refine hK.out _ _ ⟨hB1, hB2⟩ (fun hS1 => ?_)
          clear hK K'
          refine wpAnyH_take (i := 5) (v := .bool false) rfl (by kernel_rfl) (by kernel_rfl) (by kernel_rfl) (fun _ _ _ h => h) (Or.inl ⟨by kernel_rfl, fun V hV => ?_⟩) hS1 ?_
          · go_simp
          refine wpAnyH_take (i := 6) (v := .bool false) rfl (by kernel_rfl) (by kernel_rfl) (by kernel_rfl) (fun _ _ _ h => h) (Or.inl ⟨by kernel_rfl, fun V hV => ?_⟩) hS1 ?_
          · go_simp
          refine wpAnyH_take (i := 7) (v := .pointer (some ⟨b, 0, none⟩)) rfl (by kernel_rfl) (by kernel_rfl) (by kernel_rfl) (fun _ _ _ h => h) (Or.inl ⟨by kernel_rfl, fun V hV => ?_⟩) hS1 ?_
          · go_simp
          refine wpAnyH_take (i := 8) (v := .pointer (some ⟨b, 0, none⟩)) rfl (by kernel_rfl) (by kernel_rfl) (by kernel_rfl) (fun _ _ _ h => h) (Or.inl ⟨by kernel_rfl, fun V hV => ?_⟩) hS1 ?_
          · go_simp
          refine wpAnyH_take (i := 9) (v := .pointer (some ⟨b, 0, none⟩)) rfl (by kernel_rfl) (by kernel_rfl) (by kernel_rfl) (fun _ _ _ h => h) (Or.inl ⟨by kernel_rfl, fun V hV => ?_⟩) hS1 ?_
          · go_simp
          refine wpAnyH_take (i := 10) (v := .string s) rfl (by kernel_rfl) (by kernel_rfl) (by kernel_rfl) (fun _ _ _ h => h) (Or.inl ⟨by kernel_rfl, fun V hV => ?_⟩) hS1 ?_
          · have p0 := hV.2.c0
            go_simp
          refine wpAnyH_take (i := 11) (v := .pointer (some ⟨b, 0, none⟩)) rfl (by kernel_rfl) (by kernel_rfl) (by kernel_rfl) (fun _ _ _ h => h) (Or.inl ⟨by kernel_rfl, fun V hV => ?_⟩) hS1 ?_
          · go_simp
          refine wpAnyH_take (i := 12) (v := .pointer (some ⟨b, 0, none⟩)) rfl (by kernel_rfl) (by kernel_rfl) (by kernel_rfl) (fun _ _ _ h => h) (Or.inl ⟨by kernel_rfl, fun V hV => ?_⟩) hS1 ?_
          · go_simp
          refine wpAnyH_take (i := 13) (v := .pointer (some ⟨b, 1, none⟩)) rfl (by kernel_rfl) (by kernel_rfl) (by kernel_rfl) (fun _ _ _ h => h) (Or.inl ⟨by kernel_rfl, fun V hV => ?_⟩) hS1 ?_
          · go_simp
          refine wpAnyH_take (i := 14) (v := .int .i64 (k' : Int)) rfl (by kernel_rfl) (by kernel_rfl) (by kernel_rfl) (fun _ _ _ h => h) (Or.inl ⟨by kernel_rfl, fun V hV => ?_⟩) hS1 ?_
          · have p0 := hV.2.c1
            go_simp
          refine wpAnyH_take (i := 15) (v := .int .u8 (s[k'].toNat : Int)) rfl (by kernel_rfl) (by kernel_rfl) (by kernel_rfl) (fun _ _ _ h => h) (Or.inl ⟨by kernel_rfl, fun V hV => ?_⟩) hS1 ?_
          · go_simp
          refine wpAnyH_take (i := 16) (v := .bool B) rfl (by kernel_rfl) (by kernel_rfl) (by kernel_rfl) (fun _ _ _ h => h) (Or.inl ⟨by kernel_rfl, fun V hV => ?_⟩) hS1 ?_
          · go_simp
          refine wpAnyH_take (i := 17) (v := .bool B) rfl (by kernel_rfl) (by kernel_rfl) (by kernel_rfl) (fun _ _ _ h => h) (Or.inl ⟨by kernel_rfl, fun V hV => ?_⟩) hS1 ?_
          · go_simp
          refine wpAnyH_take (i := 18) (v := .bool B) rfl (by kernel_rfl) (by kernel_rfl) (by kernel_rfl) (fun _ _ _ h => h) (Or.inl ⟨by kernel_rfl, fun V hV => ?_⟩) hS1 ?_
          · go_simp
          obtain ⟨z3, z4, z5, fz⟩ := cell3 zz
          have g3 := fz 0
          have g4 := fz 1
          have g5 := fz 2
          clear fz
          refine wpAnyH_ready (rs := [19]) (by kernel_rfl) (by simp) ?_
          refine AllReadyH.cons rfl (fun K' hK => ?_) AllReadyH.nil
          rw [if_pos (by kernel_rfl)]
          go_simp
          obtain ⟨e1, e2, e3⟩ := store3 (x := .int .i64 (k : Int)) (y := .string ⟨KK.toArray⟩) (z := .string ⟨t.toArray⟩) zz
          refine hK.out _ _ ⟨e2 _ _ hS1.1 n3, e2 _ _ hS1.2 n2⟩ (fun hS2 => ?_)
          clear hK K'
          refine wpAnyH_take (i := 20) (v := .bool B) rfl (by kernel_rfl) (by kernel_rfl) (by kernel_rfl) (fun _ _ _ h => h) (Or.inl ⟨by kernel_rfl, fun V hV => ?_⟩) hS2 ?_
          · go_simp
          refine wpAnyH_done (by kernel_rfl) ?_ _
          have gW := e3 (some b) W gB.out n4.2
          go_wp2_with fail
          refine bodyPost_ret (results_cell_tmp rfl _ _ br _ _ _ _ rfl e1 Tryd.underlying46 rfl (by kernel_rfl)) rfl ?_
          exact HF2.out _ _ heH.out k' hk' ⟨hS2.2, gW⟩ (fun _ => hpH.out (by simp)) (by
            rw [hBH.out]; rfl)
        · have HMr := Lib.hid (fun W h => more_no W b k' s h hge)
          refine wp_region_held_drew (S := fun V => V.heap[bw]? = some (.cells #[.int .i64 (k : Int), .string ⟨KK.toArray⟩, .string ⟨t.toArray⟩] 46 (0, 0)) ∧ Scn V b s k') (by kernel_rfl) ⟨hA210.out, hS10'⟩ (fun hS0 => ?_)
          refine wpAnyH_take (i := 0) (v := .agg #[.int .i64 (k : Int), .string ⟨KK.toArray⟩, .string ⟨t.toArray⟩]) rfl (by kernel_rfl) (by kernel_rfl) (by kernel_rfl) (fun _ _ _ h => h) (Or.inl ⟨by kernel_rfl, fun V hV => ?_⟩) hS0 ?_
          · obtain ⟨p0, p1, p2, _⟩ := cell3 hV.1
            go_simp
          refine wpAnyH_take (i := 1) (v := .bool true) rfl (by kernel_rfl) (by kernel_rfl) (by kernel_rfl) (fun _ _ _ h => h) (Or.inl ⟨by kernel_rfl, fun V hV => ?_⟩) hS0 ?_
          · go_simp
          refine wpAnyH_take (i := 2) (v := .bool true) rfl (by kernel_rfl) (by kernel_rfl) (by kernel_rfl) (fun _ _ _ h => h) (Or.inl ⟨by kernel_rfl, fun V hV => ?_⟩) hS0 ?_
          · go_simp
          refine wpAnyH_take (i := 3) (v := .pointer (some ⟨b, 0, none⟩)) rfl (by kernel_rfl) (by kernel_rfl) (by kernel_rfl) (fun _ _ _ h => h) (Or.inl ⟨by kernel_rfl, fun V hV => ?_⟩) hS0 ?_
          · go_simp
          refine wpAnyH_ready (rs := [4]) (by kernel_rfl) (by simp) ?_
          refine AllReadyH.cons rfl (fun K' hK => ?_) AllReadyH.nil
          rw [if_pos (by kernel_rfl)]
          go_simp
          go_wp2_with fail
          refine (HMr.out _ hS0.2).mono ?_
          rintro e wB ⟨rfl, mm, hwB⟩
          have hB1 : wB.heap[bw]? = some (.cells #[.int .i64 (k : Int), .string ⟨KK.toArray⟩, .string ⟨t.toArray⟩] 46 (0, 0)) := (by rw [hwB]; exact (heap_drewN _ mm bw).trans hS0.1)
          have hB2 : Scn wB b s k' := (by rw [hwB]; exact hS0.2.drewN mm)
          have zz : wB.heap[br]? = some (.cells #[.int .i64 0, .string ⟨#[]⟩, .string ⟨#[]⟩] 46 (0, 0)) := by rw [hwB]; exact (heap_drewN _ mm br).trans hA110.out
          have gB := Lib.hid (show W.grownBy wB (some b) by rw [hwB]; exact grow_trans (grow_d hG10.out) (grow_drew _ mm _))
          clear hwB
          refine hK.out _ _ ⟨hB1, hB2⟩ (fun hS1 => ?_)
          clear hK K'
          refine wpAnyH_take (i := 5) (v := .bool true) rfl (by kernel_rfl) (by kernel_rfl) (by kernel_rfl) (fun _ _ _ h => h) (Or.inl ⟨by kernel_rfl, fun V hV => ?_⟩) hS1 ?_
          · go_simp
          refine wpAnyH_take (i := 6) (v := .bool true) rfl (by kernel_rfl) (by kernel_rfl) (by kernel_rfl) (fun _ _ _ h => h) (Or.inl ⟨by kernel_rfl, fun V hV => ?_⟩) hS1 ?_
          · go_simp
          refine wpAnyH_take (i := 7) (v := undef) rfl (by kernel_rfl) (by kernel_rfl) (by kernel_rfl) (fun _ _ _ h => h) (Or.inr ⟨by kernel_rfl, rfl⟩) hS1 ?_
          refine wpAnyH_take (i := 8) (v := undef) rfl (by kernel_rfl) (by kernel_rfl) (by kernel_rfl) (fun _ _ _ h => h) (Or.inr ⟨by kernel_rfl, rfl⟩) hS1 ?_
          refine wpAnyH_take (i := 9) (v := undef) rfl (by kernel_rfl) (by kernel_rfl) (by kernel_rfl) (fun _ _ _ h => h) (Or.inr ⟨by kernel_rfl, rfl⟩) hS1 ?_
          refine wpAnyH_take (i := 10) (v := undef) rfl (by kernel_rfl) (by kernel_rfl) (by kernel_rfl) (fun _ _ _ h => h) (Or.inr ⟨by kernel_rfl, rfl⟩) hS1 ?_
          refine wpAnyH_take (i := 11) (v := undef) rfl (by kernel_rfl) (by kernel_rfl) (by kernel_rfl) (fun _ _ _ h => h) (Or.inr ⟨by kernel_rfl, rfl⟩) hS1 ?_
          refine wpAnyH_take (i := 12) (v := undef) rfl (by kernel_rfl) (by kernel_rfl) (by kernel_rfl) (fun _ _ _ h => h) (Or.inr ⟨by kernel_rfl, rfl⟩) hS1 ?_
          refine wpAnyH_take (i := 13) (v := undef) rfl (by kernel_rfl) (by kernel_rfl) (by kernel_rfl) (fun _ _ _ h => h) (Or.inr ⟨by kernel_rfl, rfl⟩) hS1 ?_
          refine wpAnyH_take (i := 14) (v := undef) rfl (by kernel_rfl) (by kernel_rfl) (by kernel_rfl) (fun _ _ _ h => h) (Or.inr ⟨by kernel_rfl, rfl⟩) hS1 ?_
          refine wpAnyH_take (i := 15) (v := undef) rfl (by kernel_rfl) (by kernel_rfl) (by kernel_rfl) (fun _ _ _ h => h) (Or.inr ⟨by kernel_rfl, rfl⟩) hS1 ?_
          refine wpAnyH_take (i := 16) (v := undef) rfl (by kernel_rfl) (by kernel_rfl) (by kernel_rfl) (fun _ _ _ h => h) (Or.inr ⟨by kernel_rfl, rfl⟩) hS1 ?_
          refine wpAnyH_take (i := 17) (v := .bool true) rfl (by kernel_rfl) (by kernel_rfl) (by kernel_rfl) (fun _ _ _ h => h) (Or.inl ⟨by kernel_rfl, fun V hV => ?_⟩) hS1 ?_
          · go_simp
          refine wpAnyH_take (i := 18) (v := .bool true) rfl (by kernel_rfl) (by kernel_rfl) (by kernel_rfl) (fun _ _ _ h => h) (Or.inl ⟨by kernel_rfl, fun V hV => ?_⟩) hS1 ?_
          · go_simp
          obtain ⟨z3, z4, z5, fz⟩ := cell3 zz
          have g3 := fz 0
          have g4 := fz 1
          have g5 := fz 2
          clear fz
          refine wpAnyH_ready (rs := [19]) (by kernel_rfl) (by simp) ?_
          refine AllReadyH.cons rfl (fun K' hK => ?_) AllReadyH.nil
          rw [if_pos (by kernel_rfl)]
          go_simp
          obtain ⟨e1, e2, e3⟩ := store3 (x := .int .i64 (k : Int)) (y := .string ⟨KK.toArray⟩) (z := .string ⟨t.toArray⟩) zz
          refine hK.out _ _ ⟨e2 _ _ hS1.1 n3, e2 _ _ hS1.2 n2⟩ (fun hS2 => ?_)
          clear hK K'
          refine wpAnyH_take (i := 20) (v := .bool true) rfl (by kernel_rfl) (by kernel_rfl) (by kernel_rfl) (fun _ _ _ h => h) (Or.inl ⟨by kernel_rfl, fun V hV => ?_⟩) hS2 ?_
          · go_simp
          refine wpAnyH_done (by kernel_rfl) ?_ _
          have gW := e3 (some b) W gB.out n4.2
          go_wp2_with fail
          refine bodyPost_ret (results_cell_tmp rfl _ _ br _ _ _ _ rfl e1 Tryd.underlying46 rfl (by kernel_rfl)) rfl ?_
          exact HF2.out _ _ heH.out k' hk' ⟨hS2.2, gW⟩ (fun _ => hpH.out (by simp)) (by
            have hE : endB rest = true := by rw [hrH.out, drop_end s k' hge]; rfl
            rw [hE]; rfl)
  · simp only [if_neg hi] at HI
    have HX : x = ⟨[], ⟨(bodyF (s.data.toList.drop k)).text, (bodyF (s.data.toList.drop k)).ok && endB (bodyF (s.data.toList.drop k)).rest, (bodyF (s.data.toList.drop k)).rest⟩⟩ := by
      rw [← hxx.out]
      unfold wordF Words3.keyOf fromOf hasKey
      rw [decide_eq_false hi, Bool.false_and]
      simp only [Bool.false_eq_true, if_false, hH.out]
    have HXh := Lib.hid HX
    clear HX hxx hi
    go_quiet ((go_at_call 59; exact Calls.quiet_of_same (HI.out _)))
    have hS5 := Lib.hid (HS.out.drewN nq)
    have hA1 := Lib.hid (show (W2.drewN nq).heap[br]? = _ from (heap_drewN W2 nq br).trans Ha1.out)
    have hA2 := Lib.hid (show (W2.drewN nq).heap[bw]? = _ from (heap_drewN W2 nq bw).trans Ha2.out)
    have hG5 := Lib.hid (grow_trans hG2.out (grow_drew W2 nq (some b)))
    clear Ha1 Ha2 Ha4 HS d0 d1 hsub HI hG2
    generalize W2.drewN nq = W5 at *
    go_wp2_with fail
    go_quiet (fail)
    obtain ⟨KK, hKK⟩ : ∃ KK : List UInt8, KK = [] := ⟨_, rfl⟩
    have hS8 := Lib.hid (hS5.out.drewN nq)
    have hA18 := Lib.hid (show (W5.drewN nq).heap[br]? = _ from (heap_drewN W5 nq br).trans hA1.out)
    have hA28 := Lib.hid (show (W5.drewN nq).heap[bw]? = some (.cells #[.int .i64 (k : Int), .string ⟨KK.toArray⟩, .string ⟨#[]⟩] 46 (0, 0)) by rw [hKK]; exact (heap_drewN W5 nq bw).trans hA2.out)
    have hG8 := Lib.hid (grow_trans hG5.out (grow_drew W5 nq (some b)))
    clear hS5 hA1 hA2 hG5
    generalize W5.drewN nq = W8 at *
    obtain ⟨y, hy⟩ : ∃ y, bodyF (s.data.toList.drop k) = y := ⟨_, rfl⟩
    have he : x = ⟨KK, ⟨y.text, y.ok && endB y.rest, y.rest⟩⟩ := by rw [← hy, hKK]; exact HXh.out
    have HB := Lib.hid (body_any _ b k s hs hS8.out (by omega) y hy)
    have hrr := Lib.hid (bodyF_rest' s k (by omega) y hy)
    have HF2 := Lib.hid (HF.out KK y)
    have heH := Lib.hid he
    clear he hy hKK
    go_wp2_with fail
    refine HB.out.mono ?_
    rintro e w9 hbp
    obtain ⟨rfl, k', hk', s9, hp⟩ := (show BPost y _ b s e w9 from hbp)
    have hS9 := Lib.hid s9.box
    have hA19 := Lib.hid ((s9.grow.block br (Array.getElem?_eq_some_iff.1 hA18.out).1 (fun e => n2 (Option.some.inj e).symm)).trans hA18.out)
    have hA29 := Lib.hid ((s9.grow.block bw (Array.getElem?_eq_some_iff.1 hA28.out).1 (fun e => n1 (Option.some.inj e).symm)).trans hA28.out)
    have hG9 := Lib.hid (grow_trans hG8.out s9.grow)
    have hpH := Lib.hid hp
    clear s9 hp hbp
    obtain ⟨_, _, x2, fz⟩ := cell3 hA29.out
    have f2 := fz 2
    clear fz
    have hS10 := Lib.hid (heap_other (u := .string ⟨y.text.toArray⟩) (j' := 2) hS9.out n1)
    have hA110 := Lib.hid (heap_other (u := .string ⟨y.text.toArray⟩) (j' := 2) hA19.out n3.symm)
    have hA210 := Lib.hid (show (w9.setCell ⟨bw, 2, none⟩ (.string ⟨y.text.toArray⟩)).heap[bw]? = some (.cells #[.int .i64 (k : Int), .string ⟨KK.toArray⟩, .string ⟨y.text.toArray⟩] 46 (0, 0)) from Lib.heap_setCell_same (i := 2) hA29.out _)
    have hG10 := Lib.hid (grow_set (u := .string ⟨y.text.toArray⟩) (j := 2) hG9.out n4.1)
    go_upto_region 8 with (fail)
    clear x2 f2 hS9 hA19 hA29 hG9
    generalize World.setCell _ _ _ = WA at *
    have hS10' : Scn WA b s k' := hS10.out
    obtain ⟨t, ok, rest⟩ := y
    dsimp only at *
    obtain ⟨y0, y1, y2, _⟩ := cell3 hA210.out
    obtain ⟨z0, z1, z2, fz⟩ := cell3 hA110.out
    have g0 := fz 0
    have g1 := fz 1
    have g2 := fz 2
    clear fz
    cases ok with
    | false =>
      go_region
      all_goals
        obtain ⟨e1, e2, e3⟩ := store3 (x := .int .i64 (k : Int)) (y := .string ⟨KK.toArray⟩) (z := .string ⟨t.toArray⟩) hA110.out
        have gW := Lib.hid (grow_d (e3 (some b) W hG10.out n4.2))
        have hS2 := Lib.hid (e2 _ _ hS10.out n2)
        go_wp2_with fail
        refine bodyPost_ret (results_cell_tmp rfl _ _ br _ _ _ _ rfl e1 Tryd.underlying46 rfl (by kernel_rfl)) rfl ?_
        exact HF2.out _ _ heH.out k' hk' ⟨hS2.out, gW.out⟩ (fun h => by cases h) rfl
    | true =>
      obtain ⟨j, hrest, hj1, hj2⟩ := hrr.out rfl
      obtain rfl : k' = j := by have := hpH.out rfl; rw [this, hrest]; exact posOf_drop s j hj2
      have hrH := Lib.hid hrest
      clear hrest hrr
      have u0 := hS10'.c0
      have u1 := hS10'.c1
      have v0 : (0 : Int) ≤ (k' : Int) := by omega
      rcases Nat.lt_or_ge k' s.size with hlt | hge
      · have hlt' : (k' : Int) < s.size := by omega
        obtain ⟨B, hBe⟩ : ∃ B, endB rest = B := ⟨_, rfl⟩
        have hcmp : ((s[k'].toNat : Int) == 32) = B := by
          rw [← hBe, hrH.out, drop_getz s k' hlt]
          have := u8_beq s[k'] 32
          rw [getz_get s k' hlt] at this
          rw [getz_get s k' hlt]
          exact this
        have hBH := Lib.hid hBe
        clear hBe
        have HMr := Lib.hid (fun W h => more_yes W b k' s h hlt)
        refine wp_region_held_drew (S := fun V => V.heap[bw]? = some (.cells #[.int .i64 (k : Int), .string ⟨KK.toArray⟩, .string ⟨t.toArray⟩] 46 (0, 0)) ∧ Scn V b s k') (by kernel_rfl) ⟨hA210.out, hS10'⟩ (fun hS0 => ?_)
        refine wpAnyH_take (i := 0) (v := .agg #[.int .i64 (k : Int), .string ⟨KK.toArray⟩, .string ⟨t.toArray⟩]) rfl (by kernel_rfl) (by kernel_rfl) (by kernel_rfl) (fun _ _ _ h => h) (Or.inl ⟨by kernel_rfl, fun V hV => ?_⟩) hS0 ?_
        · obtain ⟨p0, p1, p2, _⟩ := cell3 hV.1
          go_simp
        refine wpAnyH_take (i := 1) (v := .bool true) rfl (by kernel_rfl) (by kernel_rfl) (by kernel_rfl) (fun _ _ _ h => h) (Or.inl ⟨by kernel_rfl, fun V hV => ?_⟩) hS0 ?_
        · go_simp
        refine wpAnyH_take (i := 2) (v := .bool true) rfl (by kernel_rfl) (by kernel_rfl) (by kernel_rfl) (fun _ _ _ h => h) (Or.inl ⟨by kernel_rfl, fun V hV => ?_⟩) hS0 ?_
        · go_simp
        refine wpAnyH_take (i := 3) (v := .pointer (some ⟨b, 0, none⟩)) rfl (by kernel_rfl) (by kernel_rfl) (by kernel_rfl) (fun _ _ _ h => h) (Or.inl ⟨by kernel_rfl, fun V hV => ?_⟩) hS0 ?_
        · go_simp
        refine wpAnyH_ready (rs := [4]) (by kernel_rfl) (by simp) ?_
        refine AllReadyH.cons rfl (fun K' hK => ?_) AllReadyH.nil
        rw [if_pos (by kernel_rfl)]
        go_simp
        go_wp2_with fail
        refine (HMr.out _ hS0.2).mono ?_
        rintro e wB ⟨rfl, mm, hwB⟩
        have hB1 : wB.heap[bw]? = some (.cells #[.int .i64 (k : Int), .string ⟨KK.toArray⟩, .string ⟨t.toArray⟩] 46 (0, 0)) := (by rw [hwB]; exact (heap_drewN _ mm bw).trans hS0.1)
        have hB2 : Scn wB b s k' := (by rw [hwB]; exact hS0.2.drewN mm)
        have zz : wB.heap[br]? = some (.cells #[.int .i64 0, .string ⟨#[]⟩, .string ⟨#[]⟩] 46 (0, 0)) := by rw [hwB]; exact (heap_drewN _ mm br).trans hA110.out
        have gB := Lib.hid (show W.grownBy wB (some b) by rw [hwB]; exact grow_trans (grow_d hG10.out) (grow_drew _ mm _))
        clear hwB
        refine hK.out _ _ ⟨hB1, hB2⟩ (fun hS1 => ?_)
        clear hK K'
        refine wpAnyH_take (i := 5) (v := .bool false) rfl (by kernel_rfl) (by kernel_rfl) (by kernel_rfl) (fun _ _ _ h => h) (Or.inl ⟨by kernel_rfl, fun V hV => ?_⟩) hS1 ?_
        · go_simp
        refine wpAnyH_take (i := 6) (v := .bool false) rfl (by kernel_rfl) (by kernel_rfl) (by kernel_rfl) (fun _ _ _ h => h) (Or.inl ⟨by kernel_rfl, fun V hV => ?_⟩) hS1 ?_
        · go_simp
        refine wpAnyH_take (i := 7) (v := .pointer (some ⟨b, 0, none⟩)) rfl (by kernel_rfl) (by kernel_rfl) (by kernel_rfl) (fun _ _ _ h => h) (Or.inl ⟨by kernel_rfl, fun V hV => ?_⟩) hS1 ?_
        · go_simp
        refine wpAnyH_take (i := 8) (v := .pointer (some ⟨b, 0, none⟩)) rfl (by kernel_rfl) (by kernel_rfl) (by kernel_rfl) (fun _ _ _ h => h) (Or.inl ⟨by kernel_rfl, fun V hV => ?_⟩) hS1 ?_
        · go_simp
        refine wpAnyH_take (i := 9) (v := .pointer (some ⟨b, 0, none⟩)) rfl (by kernel_rfl) (by kernel_rfl) (by kernel_rfl) (fun _ _ _ h => h) (Or.inl ⟨by kernel_rfl, fun V hV => ?_⟩) hS1 ?_
        · go_simp
        refine wpAnyH_take (i := 10) (v := .string s) rfl (by kernel_rfl) (by kernel_rfl) (by kernel_rfl) (fun _ _ _ h => h) (Or.inl ⟨by kernel_rfl, fun V hV => ?_⟩) hS1 ?_
        · have p0 := hV.2.c0
          go_simp
        refine wpAnyH_take (i := 11) (v := .pointer (some ⟨b, 0, none⟩)) rfl (by kernel_rfl) (by kernel_rfl) (by kernel_rfl) (fun _ _ _ h => h) (Or.inl ⟨by kernel_rfl, fun V hV => ?_⟩) hS1 ?_
        · go_simp
        refine wpAnyH_take (i := 12) (v := .pointer (some ⟨b, 0, none⟩)) rfl (by kernel_rfl) (by kernel_rfl) (by kernel_rfl) (fun _ _ _ h => h) (Or.inl ⟨by kernel_rfl, fun V hV => ?_⟩) hS1 ?_
        · go_simp
        refine wpAnyH_take (i := 13) (v := .pointer (some ⟨b, 1, none⟩)) rfl (by kernel_rfl) (by kernel_rfl) (by kernel_rfl) (fun _ _ _ h => h) (Or.inl ⟨by kernel_rfl, fun V hV => ?_⟩) hS1 ?_
        · go_simp
        refine wpAnyH_take (i := 14) (v := .int .i64 (k' : Int)) rfl (by kernel_rfl) (by kernel_rfl) (by kernel_rfl) (fun _ _ _ h => h) (Or.inl ⟨by kernel_rfl, fun V hV => ?_⟩) hS1 ?_
        · have p0 := hV.2.c1
          go_simp
        refine wpAnyH_take (i := 15) (v := .int .u8 (s[k'].toNat : Int)) rfl (by kernel_rfl) (by kernel_rfl) (by kernel_rfl) (fun _ _ _ h => h) (Or.inl ⟨by kernel_rfl, fun V hV => ?_⟩) hS1 ?_
        · go_simp
        refine wpAnyH_take (i := 16) (v := .bool B) rfl (by kernel_rfl) (by kernel_rfl) (by kernel_rfl) (fun _ _ _ h => h) (Or.inl ⟨by kernel_rfl, fun V hV => ?_⟩) hS1 ?_
        · go_simp
        refine wpAnyH_take (i := 17) (v := .bool B) rfl (by kernel_rfl) (by kernel_rfl) (by kernel_rfl) (fun _ _ _ h => h) (Or.inl ⟨by kernel_rfl, fun V hV => ?_⟩) hS1 ?_
        · go_simp
        refine wpAnyH_take (i := 18) (v := .bool B) rfl (by kernel_rfl) (by kernel_rfl) (by kernel_rfl) (fun _ _ _ h => h) (Or.inl ⟨by kernel_rfl, fun V hV => ?_⟩) hS1 ?_
        · go_simp
        obtain ⟨z3, z4, z5, fz⟩ := cell3 zz
        have g3 := fz 0
        have g4 := fz 1
        have g5 := fz 2
        clear fz
        refine wpAnyH_ready (rs := [19]) (by kernel_rfl) (by simp) ?_
        refine AllReadyH.cons rfl (fun K' hK => ?_) AllReadyH.nil
        rw [if_pos (by kernel_rfl)]
        go_simp
        obtain ⟨e1, e2, e3⟩ := store3 (x := .int .i64 (k : Int)) (y := .string ⟨KK.toArray⟩) (z := .string ⟨t.toArray⟩) zz
        refine hK.out _ _ ⟨e2 _ _ hS1.1 n3, e2 _ _ hS1.2 n2⟩ (fun hS2 => ?_)
        clear hK K'
        refine wpAnyH_take (i := 20) (v := .bool B) rfl (by kernel_rfl) (by kernel_rfl) (by kernel_rfl) (fun _ _ _ h => h) (Or.inl ⟨by kernel_rfl, fun V hV => ?_⟩) hS2 ?_
        · go_simp
        refine wpAnyH_done (by kernel_rfl) ?_ _
        have gW := e3 (some b) W gB.out n4.2
        go_wp2_with fail
        refine bodyPost_ret (results_cell_tmp rfl _ _ br _ _ _ _ rfl e1 Tryd.underlying46 rfl (by kernel_rfl)) rfl ?_
        exact HF2.out _ _ heH.out k' hk' ⟨hS2.2, gW⟩ (fun _ => hpH.out (by simp)) (by
          rw [hBH.out]; rfl)
      · have HMr := Lib.hid (fun W h => more_no W b k' s h hge)
        refine wp_region_held_drew (S := fun V => V.heap[bw]? = some (.cells #[.int .i64 (k : Int), .string ⟨KK.toArray⟩, .string ⟨t.toArray⟩] 46 (0, 0)) ∧ Scn V b s k') (by kernel_rfl) ⟨hA210.out, hS10'⟩ (fun hS0 => ?_)
        refine wpAnyH_take (i := 0) (v := .agg #[.int .i64 (k : Int), .string ⟨KK.toArray⟩, .string ⟨t.toArray⟩]) rfl (by kernel_rfl) (by kernel_rfl) (by kernel_rfl) (fun _ _ _ h => h) (Or.inl ⟨by kernel_rfl, fun V hV => ?_⟩) hS0 ?_
        · obtain ⟨p0, p1, p2, _⟩ := cell3 hV.1
          go_simp
        refine wpAnyH_take (i := 1) (v := .bool true) rfl (by kernel_rfl) (by kernel_rfl) (by kernel_rfl) (fun _ _ _ h => h) (Or.inl ⟨by kernel_rfl, fun V hV => ?_⟩) hS0 ?_
        · go_simp
        refine wpAnyH_take (i := 2) (v := .bool true) rfl (by kernel_rfl) (by kernel_rfl) (by kernel_rfl) (fun _ _ _ h => h) (Or.inl ⟨by kernel_rfl, fun V hV => ?_⟩) hS0 ?_
        · go_simp
        refine wpAnyH_take (i := 3) (v := .pointer (some ⟨b, 0, none⟩)) rfl (by kernel_rfl) (by kernel_rfl) (by kernel_rfl) (fun _ _ _ h => h) (Or.inl ⟨by kernel_rfl, fun V hV => ?_⟩) hS0 ?_
        · go_simp
        refine wpAnyH_ready (rs := [4]) (by kernel_rfl) (by simp) ?_
        refine AllReadyH.cons rfl (fun K' hK => ?_) AllReadyH.nil
        rw [if_pos (by kernel_rfl)]
        go_simp
        go_wp2_with fail
        refine (HMr.out _ hS0.2).mono ?_
        rintro e wB ⟨rfl, mm, hwB⟩
        have hB1 : wB.heap[bw]? = some (.cells #[.int .i64 (k : Int), .string ⟨KK.toArray⟩, .string ⟨t.toArray⟩] 46 (0, 0)) := (by rw [hwB]; exact (heap_drewN _ mm bw).trans hS0.1)
        have hB2 : Scn wB b s k' := (by rw [hwB]; exact hS0.2.drewN mm)
        have zz : wB.heap[br]? = some (.cells #[.int .i64 0, .string ⟨#[]⟩, .string ⟨#[]⟩] 46 (0, 0)) := by rw [hwB]; exact (heap_drewN _ mm br).trans hA110.out
        have gB := Lib.hid (show W.grownBy wB (some b) by rw [hwB]; exact grow_trans (grow_d hG10.out) (grow_drew _ mm _))
        clear hwB
        refine hK.out _ _ ⟨hB1, hB2⟩ (fun hS1 => ?_)
        clear hK K'
        refine wpAnyH_take (i := 5) (v := .bool true) rfl (by kernel_rfl) (by kernel_rfl) (by kernel_rfl) (fun _ _ _ h => h) (Or.inl ⟨by kernel_rfl, fun V hV => ?_⟩) hS1 ?_
        · go_simp
        refine wpAnyH_take (i := 6) (v := .bool true) rfl (by kernel_rfl) (by kernel_rfl) (by kernel_rfl) (fun _ _ _ h => h) (Or.inl ⟨by kernel_rfl, fun V hV => ?_⟩) hS1 ?_
        · go_simp
        refine wpAnyH_take (i := 7) (v := undef) rfl (by kernel_rfl) (by kernel_rfl) (by kernel_rfl) (fun _ _ _ h => h) (Or.inr ⟨by kernel_rfl, rfl⟩) hS1 ?_
        refine wpAnyH_take (i := 8) (v := undef) rfl (by kernel_rfl) (by kernel_rfl) (by kernel_rfl) (fun _ _ _ h => h) (Or.inr ⟨by kernel_rfl, rfl⟩) hS1 ?_
        refine wpAnyH_take (i := 9) (v := undef) rfl (by kernel_rfl) (by kernel_rfl) (by kernel_rfl) (fun _ _ _ h => h) (Or.inr ⟨by kernel_rfl, rfl⟩) hS1 ?_
        refine wpAnyH_take (i := 10) (v := undef) rfl (by kernel_rfl) (by kernel_rfl) (by kernel_rfl) (fun _ _ _ h => h) (Or.inr ⟨by kernel_rfl, rfl⟩) hS1 ?_
        refine wpAnyH_take (i := 11) (v := undef) rfl (by kernel_rfl) (by kernel_rfl) (by kernel_rfl) (fun _ _ _ h => h) (Or.inr ⟨by kernel_rfl, rfl⟩) hS1 ?_
        refine wpAnyH_take (i := 12) (v := undef) rfl (by kernel_rfl) (by kernel_rfl) (by kernel_rfl) (fun _ _ _ h => h) (Or.inr ⟨by kernel_rfl, rfl⟩) hS1 ?_
        refine wpAnyH_take (i := 13) (v := undef) rfl (by kernel_rfl) (by kernel_rfl) (by kernel_rfl) (fun _ _ _ h => h) (Or.inr ⟨by kernel_rfl, rfl⟩) hS1 ?_
        refine wpAnyH_take (i := 14) (v := undef) rfl (by kernel_rfl) (by kernel_rfl) (by kernel_rfl) (fun _ _ _ h => h) (Or.inr ⟨by kernel_rfl, rfl⟩) hS1 ?_
        refine wpAnyH_take (i := 15) (v := undef) rfl (by kernel_rfl) (by kernel_rfl) (by kernel_rfl) (fun _ _ _ h => h) (Or.inr ⟨by kernel_rfl, rfl⟩) hS1 ?_
        refine wpAnyH_take (i := 16) (v := undef) rfl (by kernel_rfl) (by kernel_rfl) (by kernel_rfl) (fun _ _ _ h => h) (Or.inr ⟨by kernel_rfl, rfl⟩) hS1 ?_
        refine wpAnyH_take (i := 17) (v := .bool true) rfl (by kernel_rfl) (by kernel_rfl) (by kernel_rfl) (fun _ _ _ h => h) (Or.inl ⟨by kernel_rfl, fun V hV => ?_⟩) hS1 ?_
        · go_simp
        refine wpAnyH_take (i := 18) (v := .bool true) rfl (by kernel_rfl) (by kernel_rfl) (by kernel_rfl) (fun _ _ _ h => h) (Or.inl ⟨by kernel_rfl, fun V hV => ?_⟩) hS1 ?_
        · go_simp
        obtain ⟨z3, z4, z5, fz⟩ := cell3 zz
        have g3 := fz 0
        have g4 := fz 1
        have g5 := fz 2
        clear fz
        refine wpAnyH_ready (rs := [19]) (by kernel_rfl) (by simp) ?_
        refine AllReadyH.cons rfl (fun K' hK => ?_) AllReadyH.nil
        rw [if_pos (by kernel_rfl)]
        go_simp
        obtain ⟨e1, e2, e3⟩ := store3 (x := .int .i64 (k : Int)) (y := .string ⟨KK.toArray⟩) (z := .string ⟨t.toArray⟩) zz
        refine hK.out _ _ ⟨e2 _ _ hS1.1 n3, e2 _ _ hS1.2 n2⟩ (fun hS2 => ?_)
        clear hK K'
        refine wpAnyH_take (i := 20) (v := .bool true) rfl (by kernel_rfl) (by kernel_rfl) (by kernel_rfl) (fun _ _ _ h => h) (Or.inl ⟨by kernel_rfl, fun V hV => ?_⟩) hS2 ?_
        · go_simp
        refine wpAnyH_done (by kernel_rfl) ?_ _
        have gW := e3 (some b) W gB.out n4.2
        go_wp2_with fail
        refine bodyPost_ret (results_cell_tmp rfl _ _ br _ _ _ _ rfl e1 Tryd.underlying46 rfl (by kernel_rfl)) rfl ?_
        exact HF2.out _ _ heH.out k' hk' ⟨hS2.2, gW⟩ (fun _ => hpH.out (by simp)) (by
          have hE : endB rest = true := by rw [hrH.out, drop_end s k' hge]; rfl
          rw [hE]; rfl)
end Go.Proofs.YtbcofimmfbmkoaaDoor
