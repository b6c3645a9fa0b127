/- Small laws at this dump: slices of bytes that the call itself makes. -/
import Derived.Test.YtbcofimmfbmkoaaDoorProg
import Derived.Handy
import Derived.Lib.Hide
import Derived.Lib.SmallJoins
import Derived.Maps.AppendAt
import Derived.Outline
import Derived.Deep.RegionLaw
namespace Go.Proofs.YtbcofimmfbmkoaaDoor
open Go.RowKit

theorem andThen {a b c : World} (h : Below a.heap.size a b) (k : Below b.heap.size b c) : Below a.heap.size a c := h.trans (k.mono h.size)
theorem infoU8 : (Tryd.prog.info? 5).map (fun i => (i.zero, i.size, i.bytes)) = some (some (.int .u8 0), 1, 1) := by kernel_rfl
def byteVals (l : List UInt8) : List Value := l.map fun b => .int .u8 (b.toNat : Int)
theorem byteVals_append (a b : List UInt8) : byteVals (a ++ b) = byteVals a ++ byteVals b := List.map_append
theorem byteVals_length (a : List UInt8) : (byteVals a).length = a.length := List.length_map _
theorem byteVals_get (a : List UInt8) (j : Nat) : (byteVals a)[j]? = (a[j]?).map fun b => Value.int .u8 (b.toNat : Int) := List.getElem?_map ..

/-- v is a slice of the call's own (from block base on) that holds just these bytes. -/
def Buf (w : World) (base : Nat) (v : Value) (l : List UInt8) : Prop := w.ownsRow base 5 1 v l.length (byteVals l)
theorem Buf.nil (w : World) (base : Nat) : Buf w base (.slice none 0 0) [] := World.ownsRow_nil _ _ _ _
theorem Buf.alloc {w : World} {base : Nat} {v : Value} {l : List UInt8} (h : Buf w base v l) (o : Obj) : Buf (w.alloc o) base v l := World.ownsRow.alloc h o
theorem Buf.drew {w : World} {base : Nat} {v : Value} {l : List UInt8} (h : Buf w base v l) : Buf w.drew base v l := World.ownsRow.drew h
theorem Buf.below {w w' : World} {base : Nat} {v : Value} {l : List UInt8} (h : Buf w base v l) (hb : Below w.heap.size w w') : Buf w' base v l := by
  refine ⟨h.1, ?_⟩
  rcases h.2 with h1 | ⟨g, cap, cur, hv, hg, hh, r⟩
  · exact Or.inl h1
  · have hlt : g < w.heap.size := (Array.getElem?_eq_some_iff.1 hh).1
    exact Or.inr ⟨g, cap, cur, hv, hg, by rw [hb.block g hlt]; exact hh, r⟩
theorem Buf.form {w : World} {base : Nat} {v : Value} {l : List UInt8} (h : Buf w base v l) : (v = .slice none 0 0 ∧ l = []) ∨ ∃ g cap, v = .slice (some ⟨g, 0, none⟩) l.length cap ∧ base ≤ g := by
  rcases h.2 with ⟨h1, h2⟩ | ⟨g, cap, _, hv, hb, _⟩
  · exact Or.inl ⟨h1, List.length_eq_zero_iff.1 h2⟩
  · exact Or.inr ⟨g, cap, hv, hb⟩
theorem Buf.congr {w : World} {base : Nat} {v v' : Value} {l l' : List UInt8} (h : Buf w base v l) (ev : v = v') (e : l = l') : Buf w base v' l' := ev ▸ e ▸ h
theorem Buf.cell {w : World} {base g cap n : Nat} {l : List UInt8} (h : Buf w base (.slice (some ⟨g, 0, none⟩) n cap) l) (j : Nat) (hj : j < l.length) : w.cell? ⟨g, j, none⟩ = some (.int .u8 (l[j].toNat : Int)) := by
  have hn : n = l.length := by
    rcases h.2 with ⟨h1, _⟩ | ⟨_, _, _, hv, _⟩
    · cases h1
    · simp only [Value.slice.injEq] at hv; exact hv.2.1
  subst hn
  have := World.ownsRow.cellAt h j (by omega)
  rw [this, byteVals_get, List.getElem?_eq_getElem hj]; rfl

theorem addr_add (g j : Nat) : (⟨g, 0, none⟩ : Addr).add j = ⟨g, j, none⟩ := by
  by_cases h : j = 0
  · subst h; simp [Addr.add]
  · simp [Addr.add, h]

/-- 'string(b)'. -/
theorem buf_string {w : World} {base : Nat} {v : Value} {l : List UInt8} (h : Buf w base v l) :
    (convert 71 9 v).run Tryd.prog w = .ok (.string ⟨l.toArray⟩) w := by
  rcases h.form with ⟨rfl, rfl⟩ | ⟨g, cap, rfl, _⟩
  · have := run_convert_bytes_string (P := Tryd.prog) w 71 9 5 none 0 0 Tryd.underlying71 Tryd.underlying5 Tryd.underlying9
    rw [this]; rfl
  · exact run_convert_bytes_back w _ _ 5 _ _ l Tryd.underlying71 Tryd.underlying5 Tryd.underlying9 (fun j hj => by
      have := h.cell j hj
      rw [addr_add]; exact this)

/-- 'string([]byte{c})'. -/
theorem one_string (c : Nat) (hc : c < 256) (w : World) :
    (convert 71 9 (.slice (some ⟨w.heap.size, 0, none⟩) 1 1)).run Tryd.prog (w.alloc (.cells #[.int .u8 (c : Int)] 5)) = .ok (.string ⟨#[UInt8.ofNat c]⟩) (w.alloc (.cells #[.int .u8 (c : Int)] 5)) := by
  exact run_convert_bytes_back _ _ _ 5 ⟨w.heap.size, 0, none⟩ 1 [UInt8.ofNat c] Tryd.underlying71 Tryd.underlying5 Tryd.underlying9 (fun j hj => by
    have hj : j < 1 := hj
    obtain rfl : j = 0 := by omega
    rw [addr_add]
    have h := World.cell?_alloc_mark w #[.int .u8 (c : Int)] 5 (0, 0) 0
    rw [h]
    have e : ((UInt8.ofNat c).toNat : Int) = c := by rw [UInt8.toNat_ofNat']; omega
    simp only [List.getElem_cons_zero, e]
    rfl)

theorem one_string_at {c g : Nat} {W w' : World} (hc : c < 256) (hb : Below W.heap.size W w') (hlt : g < W.heap.size) (hg : W.cell? ⟨g, 0, none⟩ = some (.int .u8 (c : Int))) :
    (convert 71 9 (.slice (some ⟨g, 0, none⟩) 1 1)).run Tryd.prog w' = .ok (.string ⟨#[UInt8.ofNat c]⟩) w' := by
  exact run_convert_bytes_back _ _ _ 5 ⟨g, 0, none⟩ 1 [UInt8.ofNat c] Tryd.underlying71 Tryd.underlying5 Tryd.underlying9 (fun j hj => by
    have hj : j < 1 := hj
    obtain rfl : j = 0 := by omega
    rw [addr_add, hb.cell hlt, hg]
    have e : ((UInt8.ofNat c).toNat : Int) = c := by rw [UInt8.toNat_ofNat']; omega
    simp only [List.getElem_cons_zero, e])

theorem one_string_d (c : Nat) (hc : c < 256) (w : World) :
    (convert 71 9 (.slice (some ⟨w.heap.size, 0, none⟩) 1 1)).run Tryd.prog (w.alloc (.cells #[.int .u8 (c : Int)] 5)).drew = .ok (.string ⟨#[UInt8.ofNat c]⟩) (w.alloc (.cells #[.int .u8 (c : Int)] 5)).drew :=
  one_string_at hc (Below.refl _ _) (by simp) (by simp [go_sem])
theorem one_string_dr {c : Nat} {w W w' : World} (hc : c < 256) (hb : Below W.heap.size W w') (hW : W = (w.alloc (.cells #[.int .u8 (c : Int)] 5)).drew) :
    (convert 71 9 (.slice (some ⟨w.heap.size, 0, none⟩) 1 1)).run Tryd.prog w' = .ok (.string ⟨#[UInt8.ofNat c]⟩) w' := by
  subst hW
  exact one_string_at hc hb (by simp) (by simp [go_sem])

set_option maxRecDepth 100000 in
/-- 'b = append(b, x)', x one byte. -/
theorem app_u8 {ops : Array Oper} {rest : List Oper} {o : Oper} {a : Act} {Q : Exit → Act → World → Prop} {w : World} {s x : Operand} {v : Value} {l : List UInt8} {n : Int} (hgd : o.guard = none)
    (ho : o.op = .call { callee := .builtin .append, args := #[s, x], argTypes := #[71, 71] })
    (base : Nat) (hs : a.eval s = v) (hown : Buf w base v l) (hx : a.eval x = .slice (some ⟨w.heap.size, 0, none⟩) 1 1)
    (h0 : 0 ≤ n) (h1 : n < 256) (hlen : l.length < 70368744177664) (hbase : base ≤ w.heap.size)
    (h : ∀ g cap w', Buf w' base (.slice (some ⟨g, 0, none⟩) (l.length + 1) cap) (l ++ [UInt8.ofNat n.toNat]) → Below base w w' → base ≤ g → wpList Tryd.prog ops Q rest (a.put o.dst (.slice (some ⟨g, 0, none⟩) (l.length + 1) cap)) w') :
    wpList Tryd.prog ops Q (o :: rest) a (w.alloc (.cells #[.int .u8 n] 5)) := by
  obtain ⟨i0, hi, hz0, hz1, hz2⟩ := info_parts infoU8
  refine wpList_append_own _ hgd s x 71 ho base 5 i0 (.int .u8 0) 1 1 Tryd.underlying71 hi hz0 hz1 hz2 rfl (by decide) v _ _ hs (World.ownsRow.alloc hown _) ⟨w.heap.size, 0, none⟩ 1 1 [.int .u8 n] hx rfl
    (cell_one_new _ _ _) (by intro u hu; simp at hu; subst hu; rfl) (by unfold maxLen; omega) (by omega) (by simp; omega) ?_
  intro v' w' hown' hgrow _
  have e : byteVals l ++ [.int .u8 n] = byteVals (l ++ [UInt8.ofNat n.toNat]) := by
    rw [byteVals_append]
    congr 1
    have : ((UInt8.ofNat n.toNat).toNat : Int) = n := by rw [UInt8.toNat_ofNat']; omega
    simp only [byteVals, List.map_cons, List.map_nil, this]
  rw [e] at hown'
  have hbuf : Buf w' base v' (l ++ [UInt8.ofNat n.toNat]) := by unfold Buf; rw [List.length_append]; exact hown'
  have hb : Below base w w' := ((Below.refl base w).alloc hbase _).grown hgrow (by simp; omega) (fun k hk => (World.ownsRow.lt hown k hk).1)
  rcases hbuf.form with ⟨_, hn⟩ | ⟨g, cap, rfl, hg⟩
  · simp at hn
  · rw [List.length_append] at hbuf ⊢
    exact h g cap w' hbuf hb hg
set_option maxRecDepth 100000 in
/-- The same as one step of a region that draws its order: the byte lies in a cell of whatever world stands there. -/
theorem step_app_u8 {ops : Array Oper} {o : Oper} {a : Act} {W : World} {K : Act → World → Prop} {Q : Exit → Act → World → Prop} {E : Prop} {s x : Operand} {v : Value} {l : List UInt8} {n : Int} {g0 : Nat} (hgd : o.guard = none)
    (ho : o.op = .call { callee := .builtin .append, args := #[s, x], argTypes := #[71, 71] })
    (base : Nat) (hs : a.eval s = v) (hown : Buf W base v l) (hx : a.eval x = .slice (some ⟨g0, 0, none⟩) 1 1) (hcell : W.cell? ⟨g0, 0, none⟩ = some (.int .u8 n))
    (h0 : 0 ≤ n) (h1 : n < 256) (hlen : l.length < 70368744177664) (hbase : base ≤ W.heap.size)
    (h : ∀ g cap w', Buf w' base (.slice (some ⟨g, 0, none⟩) (l.length + 1) cap) (l ++ [UInt8.ofNat n.toNat]) → Below base W w' → base ≤ g → K (a.put o.dst (.slice (some ⟨g, 0, none⟩) (l.length + 1) cap)) w') :
    if Region.wanted o (yielded ops a.tmps) = true then Oper.wp Tryd.prog o a W K Q else E := by
  have hw : Region.wanted o (yielded ops a.tmps) = true := by simp [Region.wanted, hgd]
  rw [if_pos hw]
  obtain ⟨i0, hi, hz0, hz1, hz2⟩ := info_parts infoU8
  have hnews : ∀ j u, [Value.int .u8 n][j]? = some u → W.cell? ((⟨g0, 0, none⟩ : Addr).add j) = some u := by
    intro j u hj
    match j, hj with
    | 0, hj => simp at hj; subst hj; rw [addr_add]; exact hcell
  refine wp_append_own _ s x 71 ho base 5 i0 (.int .u8 0) 1 1 Tryd.underlying71 hi hz0 hz1 hz2 rfl (by decide) v _ _ hs hown ⟨g0, 0, none⟩ 1 1 [.int .u8 n] hx rfl
    hnews (by intro u hu; simp at hu; subst hu; rfl) (by unfold maxLen; omega) (by omega) hbase ?_
  intro v' w' hown' hgrow _
  have e : byteVals l ++ [.int .u8 n] = byteVals (l ++ [UInt8.ofNat n.toNat]) := by
    rw [byteVals_append]
    congr 1
    have : ((UInt8.ofNat n.toNat).toNat : Int) = n := by rw [UInt8.toNat_ofNat']; omega
    simp only [byteVals, List.map_cons, List.map_nil, this]
  rw [e] at hown'
  have hbuf : Buf w' base v' (l ++ [UInt8.ofNat n.toNat]) := by unfold Buf; rw [List.length_append]; exact hown'
  have hb : Below base W w' := (Below.refl base W).grown hgrow hbase (fun k hk => (World.ownsRow.lt hown k hk).1)
  rcases hbuf.form with ⟨_, hn⟩ | ⟨g, cap, rfl, hg⟩
  · simp at hn
  · rw [List.length_append] at hbuf ⊢
    exact h g cap w' hbuf hb hg
end Go.Proofs.YtbcofimmfbmkoaaDoor
