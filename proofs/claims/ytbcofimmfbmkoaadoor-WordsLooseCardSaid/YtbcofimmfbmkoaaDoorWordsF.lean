/- The walks of the scanner of chapter 3: more, next, escape. -/
import Derived.Test.YtbcofimmfbmkoaaDoorWordsB
import Derived.Test.YtbcofimmfbmkoaaDoorKitL
import Derived.Deep.QuietTactic
import Derived.BigQuiet
import Derived.Lib.BufferMore
namespace Go.Proofs.YtbcofimmfbmkoaaDoor
open Go.RowKit Words3

/-- The scanner in block b stands at a place of the text s. -/
def Scn (W : World) (b : Nat) (s : ByteArray) (k : Nat) : Prop := W.heap[b]? = some (.cells #[.string s, .int .i64 (k : Int)] 66 (0, 0))
theorem Scn.lt {W : World} {b k : Nat} {s : ByteArray} (h : Scn W b s k) : b < W.heap.size := (Array.getElem?_eq_some_iff.1 h).1
theorem Scn.c0 {W : World} {b k : Nat} {s : ByteArray} (h : Scn W b s k) : W.cell? ⟨b, 0, none⟩ = some (.string s) := cell2_0 h
theorem Scn.c1 {W : World} {b k : Nat} {s : ByteArray} (h : Scn W b s k) : W.cell? ⟨b, 1, none⟩ = some (.int .i64 (k : Int)) := cell2_1 h
theorem Scn.f1 {W : World} {b k : Nat} {s : ByteArray} (h : Scn W b s k) : W.frozen? ⟨b, 1, none⟩ = false := frozen2 h 1
theorem grow_refl (W : World) (r : Option Nat) : W.grownBy W r := ⟨rfl, rfl, rfl, Nat.le_refl _, fun _ _ _ => rfl⟩
theorem grow_trans {A B C : World} {r : Option Nat} (h : A.grownBy B r) (k : B.grownBy C r) : A.grownBy C r :=
  ⟨k.os.trans h.os, k.tape.trans h.tape, k.output.trans h.output, Nat.le_trans h.size k.size, fun i hi hn => (k.block i (Nat.lt_of_lt_of_le hi h.size) hn).trans (h.block i hi hn)⟩
theorem grow_below {A B C : World} {r : Option Nat} (h : A.grownBy B r) (k : Below A.heap.size B C) : A.grownBy C r :=
  ⟨k.os.trans h.os, k.tape.trans h.tape, k.output.trans h.output, Nat.le_trans h.size k.size, fun i hi hn => (k.block i hi).trans (h.block i hi hn)⟩
theorem grow_drew (W : World) (n : Nat) (r : Option Nat) : W.grownBy (W.drewN n) r := by
  have h : Below W.heap.size W (W.drewN n) := by
    induction n with
    | zero => exact Below.refl _ _
    | succ n ih => exact ih.drew
  exact grow_below (grow_refl W r) h
theorem grow_of_below {A C : World} {r : Option Nat} (k : Below A.heap.size A C) : A.grownBy C r := grow_below (grow_refl A r) k
/-- Behind a step of the scanner: it stands at place k; nothing else that lay has turned. -/
structure Sc (W : World) (b : Nat) (s : ByteArray) (k : Nat) (w' : World) : Prop where
  box : Scn w' b s k
  grow : W.grownBy w' (some b)
theorem Sc.trans {W w1 w2 : World} {b k k2 : Nat} {s : ByteArray} (h : Sc W b s k w1) (h2 : Sc w1 b s k2 w2) : Sc W b s k2 w2 := ⟨h2.box, grow_trans h.grow h2.grow⟩
theorem heap_drewN (W : World) (n b : Nat) : (W.drewN n).heap[b]? = W.heap[b]? := by
  induction n with
  | zero => rfl
  | succ n ih => exact ih
theorem Scn.drewN {W : World} {b k : Nat} {s : ByteArray} (h : Scn W b s k) (n : Nat) : Scn (W.drewN n) b s k := (heap_drewN W n b).trans h
theorem Scn.drew {W : World} {b k : Nat} {s : ByteArray} (h : Scn W b s k) : Scn W.drew b s k := h

theorem more_any (W : World) (b k : Nat) (s : ByteArray) (h : Scn W b s k) : Calls Tryd.prog 38 #[.pointer (some ⟨b, 0, none⟩)] W fun e w' => e = .returned (.bool (decide (k < s.size))) ∧ ∃ m, w' = W.drewN m := by
  have c0 := h.c0
  have c1 := h.c1
  clear h
  go_enter Tryd.func38, Tryd.ntmps38
  go_wp2_with fail
  go_quiet (fail)
  go_wp2_with fail
  go_ret
  exact ⟨rfl, _, rfl⟩
theorem more_yes (W : World) (b k : Nat) (s : ByteArray) (h : Scn W b s k) (hk : k < s.size) : Calls Tryd.prog 38 #[.pointer (some ⟨b, 0, none⟩)] W fun e w' => e = .returned (.bool true) ∧ ∃ m, w' = W.drewN m := by
  have := more_any W b k s h
  rw [decide_eq_true hk] at this; exact this
theorem more_no (W : World) (b k : Nat) (s : ByteArray) (h : Scn W b s k) (hk : s.size ≤ k) : Calls Tryd.prog 38 #[.pointer (some ⟨b, 0, none⟩)] W fun e w' => e = .returned (.bool false) ∧ ∃ m, w' = W.drewN m := by
  have := more_any W b k s h
  rw [decide_eq_false (by omega)] at this; exact this

def getz (s : ByteArray) (k : Nat) : UInt8 := if h : k < s.size then s[k] else 0
def nx (s : ByteArray) (k : Nat) : Nat := if k < s.size then k + 1 else k
theorem set_at {W : World} {b k : Nat} {s : ByteArray} (h : Scn W b s k) (j : Nat) : Scn (W.setCell ⟨b, 1, none⟩ (.int .i64 (j : Int))) b s j := by
  have := Lib.heap_setCell_same (i := 1) h (.int .i64 (j : Int))
  exact this
set_option maxHeartbeats 1000000 in
theorem next_any (W : World) (b k : Nat) (s : ByteArray) (hs : s.size ≤ 1000000) (h : Scn W b s k) (hk : k ≤ s.size) : Calls Tryd.prog 62 #[.pointer (some ⟨b, 0, none⟩)] W fun e w' => e = .returned (.int .u8 ((getz s k).toNat : Int)) ∧ Sc W b s (nx s k) w' := by
  have H := Lib.hid h
  by_cases hlt : k < s.size
  · rw [show getz s k = s[k] from dif_pos hlt, show nx s k = k + 1 from if_pos hlt]
    have HM := Lib.hid (more_yes W b k s h hlt)
    clear h
    go_enter Tryd.func62, Tryd.ntmps62
    go_wp2_with fail
    refine HM.out.mono ?_
    rintro e w1 ⟨rfl, m, rfl⟩
    have h1 := H.out.drewN m
    have g1 := Lib.hid (grow_drew W m (some b))
    generalize W.drewN m = W1 at *
    have c1 := h1.c1
    have f1 := h1.f1
    have hs1 := Lib.hid (set_at h1 (k + 1))
    have g2 := Lib.hid (grown_cell W1 b 1 (.int .i64 ((k + 1 : Nat) : Int)))
    clear h1
    go_wp2_with fail
    have e1 : (((k + 1 : Nat) : Int)) = (k : Int) + 1 := by omega
    rw [e1] at hs1 g2
    generalize W1.setCell ⟨b, 1, none⟩ (.int .i64 ((k : Int) + 1)) = W2 at *
    have d0 := hs1.out.c0
    have d1 : W2.cell? ⟨b, 1, none⟩ = some (.int .i64 ((k : Int) + 1)) := by have := hs1.out.c1; rwa [e1] at this
    have j1 : IntKind.i64.wrap ((k : Int) + 1 - 1) = (k : Int) := by rw [IntKind.wrap_i64]; omega
    have j2 : (0 : Int) ≤ (k : Int) := by omega
    have j3 : (k : Int) < s.size := by omega
    clear c1 f1 e1
    go_quiet (fail)
    go_wp2_with fail
    go_ret
    exact ⟨rfl, hs1.out.drewN _, grow_trans (grow_trans g1.out g2.out) (grow_drew _ _ _)⟩
  · rw [show getz s k = 0 from dif_neg hlt, show nx s k = k from if_neg hlt]
    have HM := Lib.hid (more_no W b k s h (by omega))
    clear h
    go_enter Tryd.func62, Tryd.ntmps62
    go_wp2_with fail
    refine HM.out.mono ?_
    rintro e w1 ⟨rfl, m, rfl⟩
    go_wp2_with fail
    go_ret
    exact ⟨rfl, H.out.drewN m, grow_drew _ _ _⟩

theorem hex_lib (c : UInt8) : Lib.indexByte [48, 49, 50, 51, 52, 53, 54, 55, 56, 57, 97, 98, 99, 100, 101, 102] c = hexI c :=
  byte_all (P := fun c => Lib.indexByte [48, 49, 50, 51, 52, 53, 54, 55, 56, 57, 97, 98, 99, 100, 101, 102] c = hexI c) (by decide +kernel) c
theorem hexI_range (c : UInt8) : (hexI c = -1 ∨ 0 ≤ hexI c) ∧ hexI c ≤ 15 ∧ (0 ≤ hexI c → c ≠ 0) ∧ (∀ i, hexV c = some i → hexI c = (i : Int)) ∧ (hexV c = none → hexI c = -1) := by
  have h1 : (hexI c = -1 ∨ 0 ≤ hexI c) ∧ hexI c ≤ 15 ∧ (0 ≤ hexI c → c ≠ 0) := byte_all (P := fun c => (hexI c = -1 ∨ 0 ≤ hexI c) ∧ hexI c ≤ 15 ∧ (0 ≤ hexI c → c ≠ 0)) (by decide +kernel) c
  exact ⟨h1.1, h1.2.1, h1.2.2, fun i h => by unfold hexI; rw [h], fun h => by unfold hexI; rw [h]⟩
theorem drop_getz (s : ByteArray) (k : Nat) (h : k < s.size) : s.data.toList.drop k = getz s k :: s.data.toList.drop (k + 1) := by
  rw [List.drop_eq_getElem_cons (by simpa using h), get_list s k h]
  unfold getz; rw [dif_pos h]
theorem drop_end (s : ByteArray) (k : Nat) (h : s.size ≤ k) : s.data.toList.drop k = [] := List.drop_of_length_le (by rw [bytes_len]; exact h)
theorem getz_end (s : ByteArray) (k : Nat) (h : s.size ≤ k) : getz s k = 0 := dif_neg (by omega)
theorem getz_lt {s : ByteArray} {k : Nat} (h : getz s k ≠ 0) : k < s.size := by
  rcases Nat.lt_or_ge k s.size with h1 | h1
  · exact h1
  · exact absurd (getz_end s k h1) h
/-- What follows a backslash, by places. -/
def escZ (s : ByteArray) (k : Nat) : UInt8 × Nat :=
  if getz s k = 34 ∨ getz s k = 92 then (getz s k, 1) else if getz s k = 110 then (10, 1) else if getz s k = 120 ∧ 0 ≤ hexI (getz s (k + 1)) ∧ 0 ≤ hexI (getz s (k + 2)) then
    (UInt8.ofNat (16 * (hexI (getz s (k + 1))).toNat + (hexI (getz s (k + 2))).toNat), 3) else (0, 0)
theorem escL_z (s : ByteArray) (k : Nat) : escL (s.data.toList.drop k) = escZ s k := by
  unfold escZ
  rcases Nat.lt_or_ge k s.size with h | h
  · rw [drop_getz s k h]
    simp only [escL]
    by_cases h1 : getz s k = 34 ∨ getz s k = 92
    · rw [if_pos h1, if_pos h1]
    · rw [if_neg h1, if_neg h1]
      by_cases h2 : getz s k = 110
      · rw [if_pos h2, if_pos h2]
      · rw [if_neg h2, if_neg h2]
        by_cases h3 : getz s k = 120
        · rw [if_pos h3]
          rcases Nat.lt_or_ge (k + 1) s.size with h4 | h4
          · rw [drop_getz s (k + 1) h4]
            rcases Nat.lt_or_ge (k + 2) s.size with h5 | h5
            · rw [drop_getz s (k + 1 + 1) h5]
              dsimp only
              obtain ⟨a1, a2, a3, a4, a5⟩ := hexI_range (getz s (k + 1))
              obtain ⟨b1, b2, b3, b4, b5⟩ := hexI_range (getz s (k + 2))
              cases hv : hexV (getz s (k + 1)) with
              | none => rw [a5 hv]; simp
              | some i =>
                cases hw : hexV (getz s (k + 1 + 1)) with
                | none => rw [b5 hw]; simp
                | some j =>
                  rw [a4 i hv, b4 j hw, if_pos ⟨h3, by omega, by omega⟩]
                  simp
            · rw [drop_end s (k + 1 + 1) (by omega), getz_end s (k + 2) h5, if_neg (fun h => absurd h.2.2 (by decide))]
          · rw [drop_end s (k + 1) h4, getz_end s (k + 1) h4, if_neg (fun h => absurd h.2.1 (by decide))]
        · rw [if_neg h3, if_neg (fun h => h3 h.1)]
  · rw [drop_end s k h, getz_end s k h]
    rfl
/-- What escape hands back. -/
def EscPost (W : World) (b : Nat) (s : ByteArray) (k : Nat) (e : Ending) (w' : World) : Prop :=
  if (escZ s k).2 = 0 then ∃ (x : Int) (k' : Nat), k' ≤ s.size ∧ e = .returned (.tuple #[.int .u8 x, .bool false]) ∧ Sc W b s k' w'
  else e = .returned (.tuple #[.int .u8 ((escZ s k).1.toNat : Int), .bool true]) ∧ k + (escZ s k).2 ≤ s.size ∧ Sc W b s (k + (escZ s k).2) w'
theorem nx_lt {s : ByteArray} {k : Nat} (h : k < s.size) : nx s k = k + 1 := if_pos h
theorem nx_le (s : ByteArray) (k : Nat) (h : k ≤ s.size) : nx s k ≤ s.size := by unfold nx; split <;> omega
theorem getz_nx (s : ByteArray) (k : Nat) (h : k ≤ s.size) : getz s (nx s k) = getz s (k + 1) := by
  unfold nx
  split
  · rfl
  · rw [getz_end s k (by omega), getz_end s (k + 1) (by omega)]
theorem esc_ok {W : World} {b k : Nat} {s : ByteArray} {c : UInt8} {n : Nat} (hz : escZ s k = (c, n)) (hn : n ≠ 0) (hl : k + n ≤ s.size) {e : Ending} {w' : World} (he : e = .returned (.tuple #[.int .u8 (c.toNat : Int), .bool true])) (h : Sc W b s (k + n) w') : EscPost W b s k e w' := by
  unfold EscPost
  rw [hz, if_neg hn]
  exact ⟨he, hl, h⟩
theorem esc_no {W : World} {b k : Nat} {s : ByteArray} (hz : (escZ s k).2 = 0) {k' : Nat} (hk : k' ≤ s.size) {e : Ending} {w' : World} {x : Int} (he : e = .returned (.tuple #[.int .u8 x, .bool false])) (h : Sc W b s k' w') : EscPost W b s k e w' := by
  unfold EscPost
  rw [if_pos hz]
  exact ⟨x, k', hk, he, h⟩
set_option maxHeartbeats 2000000 in
theorem escape_any (W : World) (b k : Nat) (s : ByteArray) (hs : s.size ≤ 1000000) (h : Scn W b s k) (hk : k ≤ s.size) : Calls Tryd.prog 61 #[.pointer (some ⟨b, 0, none⟩)] W fun e w' => EscPost W b s k e w' := by
  have HN := Lib.hid (next_any W b k s hs h hk)
  have hn1 := nx_le s k hk
  by_cases h1 : (getz s k).toNat = 110
  · have e1 : getz s k = 110 := UInt8.toNat_inj.1 h1
    have hz : escZ s k = (10, 1) := by unfold escZ; rw [e1]; simp
    have hlt := getz_lt (s := s) (k := k) (by rw [e1]; decide)
    rw [e1, nx_lt hlt] at HN
    have hfin := Lib.hid (fun e w' he hw => esc_ok (W := W) (b := b) (e := e) (w' := w') hz (by decide) (by show k + 1 ≤ _; omega) he hw)
    clear hz e1 h1 h hn1
    go_enter Tryd.func61, Tryd.ntmps61
    go_wp2_with fail
    refine HN.out.mono ?_
    rintro e w1 ⟨rfl, s1⟩
    have S1 := Lib.hid s1
    clear s1
    go_wp2_with fail
    go_ret2
    exact hfin.out _ _ rfl S1.out
  · obtain ⟨x1, x2⟩ := bne_nat (getz s k).toNat 110 (by omega)
    by_cases h2 : (getz s k).toNat = 34 ∨ (getz s k).toNat = 92
    · have hz : escZ s k = (getz s k, 1) := by
        unfold escZ
        rw [if_pos (h2.imp (fun h => UInt8.toNat_inj.1 h) (fun h => UInt8.toNat_inj.1 h))]
      have hlt := getz_lt (s := s) (k := k) (by intro e; rw [e] at h2; revert h2; decide)
      rw [nx_lt hlt] at HN
      have hfin := Lib.hid (fun e w' he hw => esc_ok (W := W) (b := b) (e := e) (w' := w') hz (by decide) (by show k + 1 ≤ _; omega) he hw)
      generalize getz s k = c at *
      clear hz h hn1 h1
      rcases h2 with h2 | h2
      · go_enter Tryd.func61, Tryd.ntmps61
        go_wp2_with fail
        refine HN.out.mono ?_
        rintro e w1 ⟨rfl, s1⟩
        have S1 := Lib.hid s1
        clear s1
        go_wp2_with fail
        go_ret2
        exact hfin.out _ _ (by rw [h2]; rfl) S1.out
      · obtain ⟨y1, y2⟩ := bne_nat c.toNat 34 (by omega)
        go_enter Tryd.func61, Tryd.ntmps61
        go_wp2_with fail
        refine HN.out.mono ?_
        rintro e w1 ⟨rfl, s1⟩
        have S1 := Lib.hid s1
        clear s1
        go_wp2_with fail
        go_ret2
        exact hfin.out _ _ (by rw [h2]; rfl) S1.out
    · obtain ⟨y1, y2⟩ := bne_nat (getz s k).toNat 34 (by omega)
      obtain ⟨z1, z2⟩ := bne_nat (getz s k).toNat 92 (by omega)
      have h12 : ¬ (getz s k = 34 ∨ getz s k = 92) := by
        rintro (e | e) <;> rw [e] at h2 <;> revert h2 <;> decide
      have h11 : ¬ getz s k = 110 := by intro e; rw [e] at h1; revert h1; decide
      by_cases h3 : (getz s k).toNat = 120
      · have e3 : getz s k = 120 := UInt8.toNat_inj.1 h3
        have hlt := getz_lt (s := s) (k := k) (by rw [e3]; decide)
        rw [nx_lt hlt, e3] at HN
        have hz : escZ s k = if 0 ≤ hexI (getz s (k + 1)) ∧ 0 ≤ hexI (getz s (k + 2)) then (UInt8.ofNat (16 * (hexI (getz s (k + 1))).toNat + (hexI (getz s (k + 2))).toNat), 3) else (0, 0) := by
          unfold escZ
          rw [if_neg h12, if_neg h11]
          simp only [e3, true_and]
        have hgn := getz_nx s (k + 1) (by omega)
        have hnn := nx_le s (k + 1) (by omega)
        have hnn2 := nx_le s (nx s (k + 1)) hnn
        have HN2 := Lib.hid (fun W h => next_any W b (k + 1) s hs h (by omega))
        have HN3 := Lib.hid (fun W h => next_any W b (nx s (k + 1)) s hs h hnn)
        rw [hgn] at HN3
        have hpos : 0 ≤ hexI (getz s (k + 1)) ∧ 0 ≤ hexI (getz s (k + 2)) → nx s (nx s (k + 1)) = k + 3 ∧ k + 3 ≤ s.size := fun ⟨p1, p2⟩ => by
          have q1 := getz_lt ((hexI_range _).2.2.1 p1)
          have q2 := getz_lt ((hexI_range _).2.2.1 p2)
          rw [nx_lt q1, nx_lt q2]; exact ⟨rfl, by omega⟩
        obtain ⟨a1, a2, _, _, _⟩ := hexI_range (getz s (k + 1))
        obtain ⟨b1, b2, _, _, _⟩ := hexI_range (getz s (k + 2))
        have H1 := Lib.hid (fun W => Tryd.strings_IndexByte ⟨#[48, 49, 50, 51, 52, 53, 54, 55, 56, 57, 97, 98, 99, 100, 101, 102]⟩ ((getz s (k + 1)).toNat : Int) W)
        have H2 := Lib.hid (fun W => Tryd.strings_IndexByte ⟨#[48, 49, 50, 51, 52, 53, 54, 55, 56, 57, 97, 98, 99, 100, 101, 102]⟩ ((getz s (k + 2)).toNat : Int) W)
        have t1 : ((getz s (k + 1)).toNat : Int).toNat.toUInt8 = getz s (k + 1) := by simp
        have t2 : ((getz s (k + 2)).toNat : Int).toNat.toUInt8 = getz s (k + 2) := by simp
        rw [t1] at H1
        rw [t2] at H2
        simp only [hex_lib] at H1 H2
        have hfinY := Lib.hid (fun (hp : 0 ≤ hexI (getz s (k + 1)) ∧ 0 ≤ hexI (getz s (k + 2))) e w' he hw => esc_ok (W := W) (b := b) (e := e) (w' := w') (hz.trans (if_pos hp)) (by decide) (hpos hp).2 he hw)
        have hfinN := Lib.hid (fun (hp : ¬(0 ≤ hexI (getz s (k + 1)) ∧ 0 ≤ hexI (getz s (k + 2)))) x e w' he hw => esc_no (W := W) (b := b) (k := k) (s := s) (e := e) (w' := w') (x := x) (by rw [hz, if_neg hp]) hnn2 he hw)
        have Hpos := Lib.hid hpos
        clear hz hpos e3 h12 h11 t1 t2 hgn h h1 h2 h3 x1 x2 y1 y2 z1 z2
        generalize getz s (k + 1) = ca at *
        generalize getz s (k + 2) = cb at *
        generalize hexI ca = i at *
        generalize hexI cb = j at *
        by_cases hp : 0 ≤ i ∧ 0 ≤ j
        · have hfin := Lib.hid (hfinY.out hp)
          obtain ⟨p1, p2⟩ := Hpos.out hp
          obtain ⟨i1, j1⟩ := hp
          have d1 := le_t i1
          have d2 := le_t j1
          have HN3' := HN3
          rw [p1] at HN3
          have hw1 : IntKind.u8.wrap (16 * i + j) = 16 * i + j := by rw [IntKind.wrap_u8']; omega
          have hw2 : (((UInt8.ofNat (16 * i.toNat + j.toNat)).toNat : Nat) : Int) = 16 * i + j := by rw [UInt8.toNat_ofNat']; omega
          have hw2 := Lib.hid hw2
          clear HN3' hfinY hfinN Hpos p1
          go_enter Tryd.func61, Tryd.ntmps61
          go_wp2_with fail
          refine HN.out.mono ?_
          rintro e w1 ⟨rfl, s1⟩
          have S1 := Lib.hid s1
          clear s1
          go_wp2_with fail
          refine (HN2.out _ S1.out.box).mono ?_
          rintro e w2 ⟨rfl, s2⟩
          have S2 := Lib.hid (S1.out.trans s2)
          clear s2
          go_wp2_with fail
          refine (HN3.out _ S2.out.box).mono ?_
          rintro e w3 ⟨rfl, s3⟩
          have S3 := Lib.hid (S2.out.trans s3)
          clear s3
          go_wp2_with fail
          refine (H1.out _).mono ?_
          rintro e w4 ⟨rfl, rfl⟩
          go_wp2_with fail
          refine (H2.out _).mono ?_
          rintro e w5 ⟨rfl, rfl⟩
          go_wp2_with fail
          go_ret2
          exact hfin.out _ _ (by rw [hw2.out]; rfl) S3.out
        · have hfin := Lib.hid (hfinN.out hp)
          have hp2 : i = -1 ∨ (0 ≤ i ∧ j = -1) := by omega
          clear hfinY hfinN Hpos hp a1 b1
          rcases hp2 with rfl | ⟨i1, rfl⟩
          all_goals
            go_enter Tryd.func61, Tryd.ntmps61
            go_wp2_with fail
            refine HN.out.mono ?_
            rintro e w1 ⟨rfl, s1⟩
            have S1 := Lib.hid s1
            clear s1
            go_wp2_with fail
            refine (HN2.out _ S1.out.box).mono ?_
            rintro e w2 ⟨rfl, s2⟩
            have S2 := Lib.hid (S1.out.trans s2)
            clear s2
            go_wp2_with fail
            refine (HN3.out _ S2.out.box).mono ?_
            rintro e w3 ⟨rfl, s3⟩
            have S3 := Lib.hid (S2.out.trans s3)
            clear s3
            go_wp2_with fail
            refine (H1.out _).mono ?_
            rintro e w4 ⟨rfl, rfl⟩
            go_wp2_with fail
            refine (H2.out _).mono ?_
            rintro e w5 ⟨rfl, rfl⟩
            go_wp2_with fail
            go_ret2
            exact hfin.out _ _ _ rfl S3.out
      · obtain ⟨u1, u2⟩ := bne_nat (getz s k).toNat 120 (by omega)
        have h13 : ¬ getz s k = 120 := by intro e; rw [e] at h3; revert h3; decide
        have hz : (escZ s k).2 = 0 := by
          unfold escZ
          rw [if_neg h12, if_neg h11, if_neg (fun h => h13 h.1)]
        have hfin := Lib.hid (fun x e w' he hw => esc_no (W := W) (b := b) (k := k) (s := s) (e := e) (w' := w') (x := x) hz hn1 he hw)
        clear hz h13 h12 h11 h1 h2 h3 h
        go_enter Tryd.func61, Tryd.ntmps61
        go_wp2_with fail
        refine HN.out.mono ?_
        rintro e w1 ⟨rfl, s1⟩
        have S1 := Lib.hid s1
        clear s1
        go_wp2_with fail
        go_ret2
        exact hfin.out _ _ _ rfl S1.out
end Go.Proofs.YtbcofimmfbmkoaaDoor
