/- strings.Builder, its writers with a frame that keeps rows of bytes other than the builder's own (a []byte that was converted from a text). -/
import Derived.Test.YtbcofimmfbmkoaaDoorKitP
import Derived.Test.YtbcofimmfbmkoaaDoorShelf
namespace Go.Proofs.YtbcofimmfbmkoaaDoor
open Go.RowKit

/-- What a builder's writer keeps: what lies below B, and every block but the builder's own that is no row of bytes without a mark. -/
def Keep (B b : Nat) (W W' : World) : Prop := Below B W W' ∧ ∀ (k : Nat) (o : Obj), W.heap[k]? = some o → k ≠ b → (∀ cs : Array Value, o ≠ .cells cs 5 (0, 0)) → W'.heap[k]? = some o
theorem Keep.refl (B b : Nat) (W : World) : Keep B b W W := ⟨Below.refl _ _, fun _ _ h _ _ => h⟩
theorem Keep.trans {B b : Nat} {a c d : World} (h : Keep B b a c) (k : Keep B b c d) : Keep B b a d := ⟨h.1.trans k.1, fun j o h1 h2 h3 => k.2 j o (h.2 j o h1 h2 h3) h2 h3⟩
theorem Keep.set {B b j : Nat} {W W' : World} {u : Value} (h : Keep B b W W') (hb : B ≤ b) : Keep B b W (W'.setCell ⟨b, j, none⟩ u) :=
  ⟨h.1.setCell (p := ⟨b, j, none⟩) hb u, fun k o h1 h2 h3 => by rw [Below.heap_setCell _ _ _ _ h2]; exact h.2 k o h1 h2 h3⟩
abbrev Bld (B b : Nat) (l : List UInt8) (w : World) : Prop := Lib.IsBuilder 74 5 B b (Lib.byteCells l) w
theorem byteCells_app (a b : List UInt8) : Lib.byteCells (a ++ b) = Lib.byteCells a ++ Lib.byteCells b := List.map_append
theorem shape_of {w : World} {b : Nat} {p v : Value} {T : TypeId} (hb : w.heap[b]? = some (.cells #[p, v] T (0, 0))) : w.shape? b = some (T, 2) := by simp [World.shape?, hb]

/-- copyCheck. -/
theorem copyCheck_keep (B b : Nat) (bs : List Value) (w : World) (h : Lib.IsBuilder 74 5 B b bs w) :
    Calls Tryd.prog 54 #[.pointer (some ⟨b, 0, none⟩)] w fun e w' => e = .returned (.tuple #[]) ∧ Lib.BuilderAt 74 5 B b (.pointer (some ⟨b, 0, none⟩)) bs w' ∧ Keep B b w w' := by
  rcases h with h | h
  · refine (Tryd.Builder_copyCheck_fresh b w h.cell0 h.shape h.frozen0).mono ?_
    rintro e w' ⟨rfl, rfl⟩
    exact ⟨rfl, h.used _, (Keep.refl B b w).set h.1⟩
  · refine (Tryd.Builder_copyCheck_used b w h.cell0).mono ?_
    rintro e w' ⟨rfl, rfl⟩
    exact ⟨rfl, h, Keep.refl B b _⟩
theorem own_other {W : World} {B k : Nat} {v : Value} {n : Nat} {xs : List Value} {o : Obj} (h : W.ownsRow B 5 1 v n xs) (ho : W.heap[k]? = some o) (hn : ∀ cs : Array Value, o ≠ .cells cs 5 (0, 0)) : some k ≠ v.ownBlock := by
  intro e
  rcases h.2 with ⟨rfl, _⟩ | ⟨g', cap, cur, rfl, _, hh, _⟩
  · simp [Value.ownBlock] at e
  · simp only [Value.ownBlock, Option.some.injEq] at e
    subst e
    rw [ho] at hh
    exact hn _ (Option.some.inj hh)

set_option maxHeartbeats 2000000 in
set_option maxRecDepth 100000 in
theorem WriteByte_keep (B b : Nat) (l : List UInt8) (c : UInt8) (w : World) (h : Bld B b l w) (hlen : l.length ≤ 1000000) (hBw : B ≤ w.heap.size) :
    Calls Tryd.prog 42 #[.pointer (some ⟨b, 0, none⟩), .int .u8 (c.toNat : Int)] w fun e w' => e = .returned .nilIface ∧ Bld B b (l ++ [c]) w' ∧ Keep B b w w' := by
  obtain ⟨i0, hi, hz0, hz1, hz2⟩ := info_parts infoU8
  have hl := Lib.byteCells_length l
  have HC := Lib.hid (copyCheck_keep B b (Lib.byteCells l) w h)
  have hb8 : Lib.byteCells (l ++ [c]) = Lib.byteCells l ++ [.int .u8 (c.toNat : Int)] := byteCells_app l [c]
  rw [show Bld B b (l ++ [c]) = Lib.IsBuilder 74 5 B b (Lib.byteCells l ++ [.int .u8 (c.toNat : Int)]) from by unfold Bld; rw [hb8]]
  have hcn := UInt8.toNat_lt c
  generalize c.toNat = n at *
  generalize Lib.byteCells l = bs at *
  clear h hb8
  have hl' : bs.length ≤ 1000000 := by omega
  clear hl hlen
  go_enter Tryd.func42, Tryd.ntmps42
  go_wp2_with fail
  refine HC.out.mono ?_
  rintro e w1 ⟨rfl, h1, hb1⟩
  obtain ⟨hB, v, hbk, hown, hne⟩ := h1
  have c0 : w1.cell? ⟨b, 0, none⟩ = some (.pointer (some ⟨b, 0, none⟩)) := by rw [Lib.cell_of_heap hbk]; rfl
  have c1 : w1.cell? ⟨b, 1, none⟩ = some v := by rw [Lib.cell_of_heap hbk]; rfl
  go_wp2_with (at_builtin; refine wpList_append_own _ rfl _ _ 71 rfl B 5 i0 (.int .u8 0) 1 1 Tryd.underlying71 hi hz0 hz1 hz2 rfl (by decide) _ _ _ rfl (hown.alloc _) ⟨w1.heap.size, 0, none⟩ 1 1 [.int .u8 n] rfl rfl ?c1 ?c2 ?c3 ?c4 ?c5 ?_)
  case c1 => exact cell_one_new _ _ _
  case c2 => intro u hu; simp at hu; subst hu; rfl
  case c3 => unfold maxLen; omega
  case c4 => omega
  case c5 => have := hb1.1.size; simp; omega
  intro v' w2 hown' hgrow _
  have hlt : b < w1.heap.size := (Array.getElem?_eq_some_iff.1 hbk).1
  have hb2 : w2.heap[b]? = some (.cells #[.pointer (some ⟨b, 0, none⟩), v] 74 (0, 0)) := by
    rw [hgrow.block b (by simp; omega) (fun e => hne e.symm), Lib.alloc_old w1 _ b hlt]
    exact hbk
  have d0 : w2.cell? ⟨b, 0, none⟩ = some (.pointer (some ⟨b, 0, none⟩)) := by rw [Lib.cell_of_heap hb2]; rfl
  have d1 : w2.cell? ⟨b, 1, none⟩ = some v := by rw [Lib.cell_of_heap hb2]; rfl
  have f1 : w2.frozen? ⟨b, 1, none⟩ = false := Lib.frozen_of_heap hb2 1
  obtain ⟨g, cap, rfl⟩ : ∃ g cap, v' = .slice (some ⟨g, 0, none⟩) (bs.length + 1) cap := by
    rcases hown'.2 with ⟨_, h0⟩ | ⟨g, cap, cur, hv, _⟩
    · omega
    · exact ⟨g, cap, hv⟩
  go_wp2
  go_ret
  refine ⟨rfl, .inr (Lib.BuilderAt.put (T := 74) (e := 5) hB hb2 (bs' := bs ++ [.int .u8 n]) (by simpa using hown') (by decide)), Keep.set ?_ hB⟩
  refine hb1.trans ⟨(((Below.refl B w1).alloc (by have := hb1.1.size; omega) _).grown hgrow (by have := hb1.1.size; simp; omega) (fun k hk => (hown.lt k hk).1)), fun k o h1 h2 h3 => ?_⟩
  have hk := (Array.getElem?_eq_some_iff.1 h1).1
  rw [hgrow.block k (by simp; omega) (own_other hown h1 h3), Lib.alloc_old w1 _ k hk]
  exact h1

set_option maxHeartbeats 2000000 in
set_option maxRecDepth 100000 in
theorem WriteString_keep (B b : Nat) (l s : List UInt8) (w : World) (h : Bld B b l w) (hlen : l.length ≤ 1000000) (hs : s.length ≤ 1000000) (hBw : B ≤ w.heap.size) :
    Calls Tryd.prog 43 #[.pointer (some ⟨b, 0, none⟩), .string ⟨s.toArray⟩] w fun e w' => e = .returned (.tuple #[.int .i64 (s.length : Int), .nilIface]) ∧ Bld B b (l ++ s) w' ∧ Keep B b w w' := by
  obtain ⟨i0, hi, hz0, hz1, hz2⟩ := info_parts infoU8
  have hl := Lib.byteCells_length l
  have HC := Lib.hid (copyCheck_keep B b (Lib.byteCells l) w h)
  have hb8 : Lib.byteCells (l ++ s) = Lib.byteCells l ++ Lib.strCells ⟨s.toArray⟩ := by rw [byteCells_app]; congr 1
  have hss : (⟨s.toArray⟩ : ByteArray).size = s.length := rfl
  rw [show Bld B b (l ++ s) = Lib.IsBuilder 74 5 B b (Lib.byteCells l ++ Lib.strCells ⟨s.toArray⟩) from by unfold Bld; rw [hb8], ← hss]
  rw [← hss] at hs
  generalize (⟨s.toArray⟩ : ByteArray) = S at *
  generalize Lib.byteCells l = bs at *
  clear h hb8 hss
  have hl' : bs.length ≤ 1000000 := by omega
  clear hl hlen
  go_enter Tryd.func43, Tryd.ntmps43
  go_wp2_with fail
  refine HC.out.mono ?_
  rintro e w1 ⟨rfl, h1, hb1⟩
  obtain ⟨hB, v, hbk, hown, hne⟩ := h1
  have c0 : w1.cell? ⟨b, 0, none⟩ = some (.pointer (some ⟨b, 0, none⟩)) := by rw [Lib.cell_of_heap hbk]; rfl
  have c1 : w1.cell? ⟨b, 1, none⟩ = some v := by rw [Lib.cell_of_heap hbk]; rfl
  go_wp2_with (at_builtin; refine Lib.wpList_append_own_string _ rfl _ _ 71 9 rfl B 5 i0 Tryd.underlying71 Tryd.underlying9 hi hz0 hz1 hz2 _ _ _ rfl hown S rfl ?c3 ?c4 ?c5 ?_)
  case c3 => unfold maxLen; omega
  case c4 => omega
  case c5 => have := hb1.1.size; omega
  intro v' w2 hown' hgrow _
  have hlt : b < w1.heap.size := (Array.getElem?_eq_some_iff.1 hbk).1
  have hb2 : w2.heap[b]? = some (.cells #[.pointer (some ⟨b, 0, none⟩), v] 74 (0, 0)) := by
    rw [hgrow.block b hlt (fun e => hne e.symm)]
    exact hbk
  have d0 : w2.cell? ⟨b, 0, none⟩ = some (.pointer (some ⟨b, 0, none⟩)) := by rw [Lib.cell_of_heap hb2]; rfl
  have d1 : w2.cell? ⟨b, 1, none⟩ = some v := by rw [Lib.cell_of_heap hb2]; rfl
  have f1 : w2.frozen? ⟨b, 1, none⟩ = false := Lib.frozen_of_heap hb2 1
  obtain ⟨ao, n', cap, rfl⟩ : ∃ ao n' cap, v' = .slice ao n' cap := by
    rcases hown'.2 with ⟨hv, _⟩ | ⟨g, cap, cur, hv, _⟩
    · exact ⟨_, _, _, hv⟩
    · exact ⟨_, _, _, hv⟩
  go_wp2
  go_ret2
  refine ⟨rfl, .inr (Lib.BuilderAt.put (T := 74) (e := 5) hB hb2 (bs' := bs ++ Lib.strCells S) (by simpa [Lib.strCells_length] using hown') (by decide)), Keep.set ?_ hB⟩
  refine hb1.trans ⟨(Below.refl B w1).grown hgrow (by have := hb1.1.size; omega) (fun k hk => (hown.lt k hk).1), fun k o h1 h2 h3 => ?_⟩
  have hk := (Array.getElem?_eq_some_iff.1 h1).1
  rw [hgrow.block k hk (own_other hown h1 h3)]
  exact h1
theorem Bld.lt {B b : Nat} {l : List UInt8} {w : World} (h : Bld B b l w) : b < w.heap.size := by
  rcases h with h | h
  · exact h.lt
  · exact h.lt
theorem Bld.fresh (w : World) : Bld w.heap.size w.heap.size [] (w.alloc (.cells #[.pointer none, .slice none 0 0] 74)) := Lib.fresh_isBuilder 74 5 w
theorem WriteByte_int (B b : Nat) (l : List UInt8) (c : UInt8) (x : Int) (hx : (c.toNat : Int) = x) (w : World) (h : Bld B b l w) (hlen : l.length ≤ 1000000) (hBw : B ≤ w.heap.size) :
    Calls Tryd.prog 42 #[.pointer (some ⟨b, 0, none⟩), .int .u8 x] w fun e w' => e = .returned .nilIface ∧ Bld B b (l ++ [c]) w' ∧ Keep B b w w' := hx ▸ WriteByte_keep B b l c w h hlen hBw
theorem RowB.same {w w' : World} {g : Nat} {l : List UInt8} (h : RowB w g l) (e : w'.heap[g]? = w.heap[g]?) : RowB w' g l := by
  intro j hj
  obtain ⟨h1, h2⟩ := h j hj
  unfold World.cell? World.frozen? at *
  rw [e]; exact ⟨h1, h2⟩
theorem bld_row {B b : Nat} {l : List UInt8} {w : World} (h : Bld B b l w) (o : Obj) : Bld B b l (w.alloc o) := by
  have hk : ∀ {p : Value}, Lib.BuilderAt 74 5 B b p (Lib.byteCells l) w → Lib.BuilderAt 74 5 B b p (Lib.byteCells l) (w.alloc o) := by
    rintro p ⟨h1, v, h2, h3, h4⟩
    exact ⟨h1, v, (Lib.alloc_old w o b (Array.getElem?_eq_some_iff.1 h2).1).trans h2, h3.alloc o, h4⟩
  rcases h with h | h
  · exact .inl (hk h)
  · exact .inr (hk h)
theorem bld_drew {B b : Nat} {l : List UInt8} {w : World} (h : Bld B b l w) : Bld B b l w.drew := by
  rcases h with h | h
  · exact .inl h
  · exact .inr h
end Go.Proofs.YtbcofimmfbmkoaaDoor
