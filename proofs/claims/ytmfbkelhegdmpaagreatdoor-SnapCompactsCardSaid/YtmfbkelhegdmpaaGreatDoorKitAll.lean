/- Texts of small laws, one behind the other. -/
import Derived.Test.YtmfbkelhegdmpaaGreatDoorProg
import Derived.Handy
import Derived.Lib.Hide
import Derived.Lib.SmallJoins
import Derived.Maps.AppendAt
import Derived.Outline
import Derived.Deep.RegionLaw
import Derived.DataElems
import Derived.RangeFuncRecord
import Derived.Lib.SliceRun
import Derived.Lib.BufferMore
import Derived.Deep.Slices
import Derived.ChangeStays
import Derived.ReadAgain
import Derived.IntWalk
/- Small laws at this dump: slices of bytes that the call itself makes. -/
namespace Go.Proofs.YtmfbkelhegdmpaaGreatDoor
open Go.RowKit

theorem andThen {a b c : World} (h : Below a.heap.size a b) (k : Below b.heap.size b c) : Below a.heap.size a c := h.trans (k.mono h.size)
theorem infoU8 : (Tryz.prog.info? 5).map (fun i => (i.zero, i.size, i.bytes)) = some (some (.int .u8 0), 1, 1) := by kernel_rfl
def byteVals (l : List UInt8) : List Value := l.map fun b => .int .u8 (b.toNat : Int)
theorem byteVals_append (a b : List UInt8) : byteVals (a ++ b) = byteVals a ++ byteVals b := List.map_append
theorem byteVals_length (a : List UInt8) : (byteVals a).length = a.length := List.length_map _
theorem byteVals_get (a : List UInt8) (j : Nat) : (byteVals a)[j]? = (a[j]?).map fun b => Value.int .u8 (b.toNat : Int) := List.getElem?_map ..

/-- v is a slice of the call's own (from block base on) that holds just these bytes. -/
def Buf (w : World) (base : Nat) (v : Value) (l : List UInt8) : Prop := w.ownsRow base 5 1 v l.length (byteVals l)
theorem Buf.nil (w : World) (base : Nat) : Buf w base (.slice none 0 0) [] := World.ownsRow_nil _ _ _ _
theorem Buf.alloc {w : World} {base : Nat} {v : Value} {l : List UInt8} (h : Buf w base v l) (o : Obj) : Buf (w.alloc o) base v l := World.ownsRow.alloc h o
theorem Buf.drew {w : World} {base : Nat} {v : Value} {l : List UInt8} (h : Buf w base v l) : Buf w.drew base v l := World.ownsRow.drew h
theorem Buf.below {w w' : World} {base : Nat} {v : Value} {l : List UInt8} (h : Buf w base v l) (hb : Below w.heap.size w w') : Buf w' base v l := by
  refine ⟨h.1, ?_⟩
  rcases h.2 with h1 | ⟨g, cap, cur, hv, hg, hh, r⟩
  · exact Or.inl h1
  · have hlt : g < w.heap.size := (Array.getElem?_eq_some_iff.1 hh).1
    exact Or.inr ⟨g, cap, cur, hv, hg, by rw [hb.block g hlt]; exact hh, r⟩
theorem Buf.form {w : World} {base : Nat} {v : Value} {l : List UInt8} (h : Buf w base v l) : (v = .slice none 0 0 ∧ l = []) ∨ ∃ g cap, v = .slice (some ⟨g, 0, none⟩) l.length cap ∧ base ≤ g := by
  rcases h.2 with ⟨h1, h2⟩ | ⟨g, cap, _, hv, hb, _⟩
  · exact Or.inl ⟨h1, List.length_eq_zero_iff.1 h2⟩
  · exact Or.inr ⟨g, cap, hv, hb⟩
theorem Buf.congr {w : World} {base : Nat} {v v' : Value} {l l' : List UInt8} (h : Buf w base v l) (ev : v = v') (e : l = l') : Buf w base v' l' := ev ▸ e ▸ h
theorem Buf.cell {w : World} {base g cap n : Nat} {l : List UInt8} (h : Buf w base (.slice (some ⟨g, 0, none⟩) n cap) l) (j : Nat) (hj : j < l.length) : w.cell? ⟨g, j, none⟩ = some (.int .u8 (l[j].toNat : Int)) := by
  have hn : n = l.length := by
    rcases h.2 with ⟨h1, _⟩ | ⟨_, _, _, hv, _⟩
    · cases h1
    · simp only [Value.slice.injEq] at hv; exact hv.2.1
  subst hn
  have := World.ownsRow.cellAt h j (by omega)
  rw [this, byteVals_get, List.getElem?_eq_getElem hj]; rfl

theorem addr_add (g j : Nat) : (⟨g, 0, none⟩ : Addr).add j = ⟨g, j, none⟩ := by
  by_cases h : j = 0
  · subst h; simp [Addr.add]
  · simp [Addr.add, h]

/-- 'string(b)'. -/
theorem buf_string {w : World} {base : Nat} {v : Value} {l : List UInt8} (h : Buf w base v l) :
    (convert 52 9 v).run Tryz.prog w = .ok (.string ⟨l.toArray⟩) w := by
  rcases h.form with ⟨rfl, rfl⟩ | ⟨g, cap, rfl, _⟩
  · have := run_convert_bytes_string (P := Tryz.prog) w 52 9 5 none 0 0 Tryz.underlying52 Tryz.underlying5 Tryz.underlying9
    rw [this]; rfl
  · exact run_convert_bytes_back w _ _ 5 _ _ l Tryz.underlying52 Tryz.underlying5 Tryz.underlying9 (fun j hj => by
      have := h.cell j hj
      rw [addr_add]; exact this)

/-- 'string([]byte{c})'. -/
theorem one_string (c : Nat) (hc : c < 256) (w : World) :
    (convert 52 9 (.slice (some ⟨w.heap.size, 0, none⟩) 1 1)).run Tryz.prog (w.alloc (.cells #[.int .u8 (c : Int)] 5)) = .ok (.string ⟨#[UInt8.ofNat c]⟩) (w.alloc (.cells #[.int .u8 (c : Int)] 5)) := by
  exact run_convert_bytes_back _ _ _ 5 ⟨w.heap.size, 0, none⟩ 1 [UInt8.ofNat c] Tryz.underlying52 Tryz.underlying5 Tryz.underlying9 (fun j hj => by
    have hj : j < 1 := hj
    obtain rfl : j = 0 := by omega
    rw [addr_add]
    have h := World.cell?_alloc_mark w #[.int .u8 (c : Int)] 5 (0, 0) 0
    rw [h]
    have e : ((UInt8.ofNat c).toNat : Int) = c := by rw [UInt8.toNat_ofNat']; omega
    simp only [List.getElem_cons_zero, e]
    rfl)

theorem one_string_at {c g : Nat} {W w' : World} (hc : c < 256) (hb : Below W.heap.size W w') (hlt : g < W.heap.size) (hg : W.cell? ⟨g, 0, none⟩ = some (.int .u8 (c : Int))) :
    (convert 52 9 (.slice (some ⟨g, 0, none⟩) 1 1)).run Tryz.prog w' = .ok (.string ⟨#[UInt8.ofNat c]⟩) w' := by
  exact run_convert_bytes_back _ _ _ 5 ⟨g, 0, none⟩ 1 [UInt8.ofNat c] Tryz.underlying52 Tryz.underlying5 Tryz.underlying9 (fun j hj => by
    have hj : j < 1 := hj
    obtain rfl : j = 0 := by omega
    rw [addr_add, hb.cell hlt, hg]
    have e : ((UInt8.ofNat c).toNat : Int) = c := by rw [UInt8.toNat_ofNat']; omega
    simp only [List.getElem_cons_zero, e])

theorem one_string_d (c : Nat) (hc : c < 256) (w : World) :
    (convert 52 9 (.slice (some ⟨w.heap.size, 0, none⟩) 1 1)).run Tryz.prog (w.alloc (.cells #[.int .u8 (c : Int)] 5)).drew = .ok (.string ⟨#[UInt8.ofNat c]⟩) (w.alloc (.cells #[.int .u8 (c : Int)] 5)).drew :=
  one_string_at hc (Below.refl _ _) (by simp) (by simp [go_sem])
theorem one_string_dr {c : Nat} {w W w' : World} (hc : c < 256) (hb : Below W.heap.size W w') (hW : W = (w.alloc (.cells #[.int .u8 (c : Int)] 5)).drew) :
    (convert 52 9 (.slice (some ⟨w.heap.size, 0, none⟩) 1 1)).run Tryz.prog w' = .ok (.string ⟨#[UInt8.ofNat c]⟩) w' := by
  subst hW
  exact one_string_at hc hb (by simp) (by simp [go_sem])

set_option maxRecDepth 100000 in
/-- 'b = append(b, x)', x one byte. -/
theorem app_u8 {ops : Array Oper} {rest : List Oper} {o : Oper} {a : Act} {Q : Exit → Act → World → Prop} {w : World} {s x : Operand} {v : Value} {l : List UInt8} {n : Int} (hgd : o.guard = none)
    (ho : o.op = .call { callee := .builtin .append, args := #[s, x], argTypes := #[52, 52] })
    (base : Nat) (hs : a.eval s = v) (hown : Buf w base v l) (hx : a.eval x = .slice (some ⟨w.heap.size, 0, none⟩) 1 1)
    (h0 : 0 ≤ n) (h1 : n < 256) (hlen : l.length < 70368744177664) (hbase : base ≤ w.heap.size)
    (h : ∀ g cap w', Buf w' base (.slice (some ⟨g, 0, none⟩) (l.length + 1) cap) (l ++ [UInt8.ofNat n.toNat]) → Below base w w' → base ≤ g → wpList Tryz.prog ops Q rest (a.put o.dst (.slice (some ⟨g, 0, none⟩) (l.length + 1) cap)) w') :
    wpList Tryz.prog ops Q (o :: rest) a (w.alloc (.cells #[.int .u8 n] 5)) := by
  obtain ⟨i0, hi, hz0, hz1, hz2⟩ := info_parts infoU8
  refine wpList_append_own _ hgd s x 52 ho base 5 i0 (.int .u8 0) 1 1 Tryz.underlying52 hi hz0 hz1 hz2 rfl (by decide) v _ _ hs (World.ownsRow.alloc hown _) ⟨w.heap.size, 0, none⟩ 1 1 [.int .u8 n] hx rfl
    (cell_one_new _ _ _) (by intro u hu; simp at hu; subst hu; rfl) (by unfold maxLen; omega) (by omega) (by simp; omega) ?_
  intro v' w' hown' hgrow _
  have e : byteVals l ++ [.int .u8 n] = byteVals (l ++ [UInt8.ofNat n.toNat]) := by
    rw [byteVals_append]
    congr 1
    have : ((UInt8.ofNat n.toNat).toNat : Int) = n := by rw [UInt8.toNat_ofNat']; omega
    simp only [byteVals, List.map_cons, List.map_nil, this]
  rw [e] at hown'
  have hbuf : Buf w' base v' (l ++ [UInt8.ofNat n.toNat]) := by unfold Buf; rw [List.length_append]; exact hown'
  have hb : Below base w w' := ((Below.refl base w).alloc hbase _).grown hgrow (by simp; omega) (fun k hk => (World.ownsRow.lt hown k hk).1)
  rcases hbuf.form with ⟨_, hn⟩ | ⟨g, cap, rfl, hg⟩
  · simp at hn
  · rw [List.length_append] at hbuf ⊢
    exact h g cap w' hbuf hb hg
set_option maxRecDepth 100000 in
/-- The same as one step of a region that draws its order: the byte lies in a cell of whatever world stands there. -/
theorem step_app_u8 {ops : Array Oper} {o : Oper} {a : Act} {W : World} {K : Act → World → Prop} {Q : Exit → Act → World → Prop} {E : Prop} {s x : Operand} {v : Value} {l : List UInt8} {n : Int} {g0 : Nat} (hgd : o.guard = none)
    (ho : o.op = .call { callee := .builtin .append, args := #[s, x], argTypes := #[52, 52] })
    (base : Nat) (hs : a.eval s = v) (hown : Buf W base v l) (hx : a.eval x = .slice (some ⟨g0, 0, none⟩) 1 1) (hcell : W.cell? ⟨g0, 0, none⟩ = some (.int .u8 n))
    (h0 : 0 ≤ n) (h1 : n < 256) (hlen : l.length < 70368744177664) (hbase : base ≤ W.heap.size)
    (h : ∀ g cap w', Buf w' base (.slice (some ⟨g, 0, none⟩) (l.length + 1) cap) (l ++ [UInt8.ofNat n.toNat]) → Below base W w' → base ≤ g → K (a.put o.dst (.slice (some ⟨g, 0, none⟩) (l.length + 1) cap)) w') :
    if Region.wanted o (yielded ops a.tmps) = true then Oper.wp Tryz.prog o a W K Q else E := by
  have hw : Region.wanted o (yielded ops a.tmps) = true := by simp [Region.wanted, hgd]
  rw [if_pos hw]
  obtain ⟨i0, hi, hz0, hz1, hz2⟩ := info_parts infoU8
  have hnews : ∀ j u, [Value.int .u8 n][j]? = some u → W.cell? ((⟨g0, 0, none⟩ : Addr).add j) = some u := by
    intro j u hj
    match j, hj with
    | 0, hj => simp at hj; subst hj; rw [addr_add]; exact hcell
  refine wp_append_own _ s x 52 ho base 5 i0 (.int .u8 0) 1 1 Tryz.underlying52 hi hz0 hz1 hz2 rfl (by decide) v _ _ hs hown ⟨g0, 0, none⟩ 1 1 [.int .u8 n] hx rfl
    hnews (by intro u hu; simp at hu; subst hu; rfl) (by unfold maxLen; omega) (by omega) hbase ?_
  intro v' w' hown' hgrow _
  have e : byteVals l ++ [.int .u8 n] = byteVals (l ++ [UInt8.ofNat n.toNat]) := by
    rw [byteVals_append]
    congr 1
    have : ((UInt8.ofNat n.toNat).toNat : Int) = n := by rw [UInt8.toNat_ofNat']; omega
    simp only [byteVals, List.map_cons, List.map_nil, this]
  rw [e] at hown'
  have hbuf : Buf w' base v' (l ++ [UInt8.ofNat n.toNat]) := by unfold Buf; rw [List.length_append]; exact hown'
  have hb : Below base W w' := (Below.refl base W).grown hgrow hbase (fun k hk => (World.ownsRow.lt hown k hk).1)
  rcases hbuf.form with ⟨_, hn⟩ | ⟨g, cap, rfl, hg⟩
  · simp at hn
  · rw [List.length_append] at hbuf ⊢
    exact h g cap w' hbuf hb hg
end Go.Proofs.YtmfbkelhegdmpaaGreatDoor
/- Small laws at this dump: slices of texts that the call itself makes. -/
namespace Go.Proofs.YtmfbkelhegdmpaaGreatDoor
open Go.RowKit

theorem infoStr : (Tryz.prog.info? 9).map (fun i => (i.zero, i.size, i.bytes)) = some (some (.string ⟨#[]⟩), 1, 16) := by kernel_rfl
def strVals (l : List (List UInt8)) : List Value := l.map fun b => .string ⟨b.toArray⟩
theorem strVals_append (a b : List (List UInt8)) : strVals (a ++ b) = strVals a ++ strVals b := List.map_append
theorem strVals_length (a : List (List UInt8)) : (strVals a).length = a.length := List.length_map _
theorem strVals_get (a : List (List UInt8)) (j : Nat) : (strVals a)[j]? = (a[j]?).map fun b => Value.string ⟨b.toArray⟩ := List.getElem?_map ..

/-- v is a slice of the call's own (from block base on) that holds just these texts. -/
def Txt (w : World) (base : Nat) (v : Value) (l : List (List UInt8)) : Prop := w.ownsRow base 9 1 v l.length (strVals l)
theorem Txt.nil (w : World) (base : Nat) : Txt w base (.slice none 0 0) [] := World.ownsRow_nil _ _ _ _
theorem Txt.alloc {w : World} {base : Nat} {v : Value} {l : List (List UInt8)} (h : Txt w base v l) (o : Obj) : Txt (w.alloc o) base v l := World.ownsRow.alloc h o
theorem Txt.drew {w : World} {base : Nat} {v : Value} {l : List (List UInt8)} (h : Txt w base v l) : Txt w.drew base v l := World.ownsRow.drew h
theorem Txt.below {w w' : World} {base : Nat} {v : Value} {l : List (List UInt8)} (h : Txt w base v l) (hb : Below w.heap.size w w') : Txt w' base v l := by
  refine ⟨h.1, ?_⟩
  rcases h.2 with h1 | ⟨g, cap, cur, hv, hg, hh, r⟩
  · exact Or.inl h1
  · have hlt : g < w.heap.size := (Array.getElem?_eq_some_iff.1 hh).1
    exact Or.inr ⟨g, cap, cur, hv, hg, by rw [hb.block g hlt]; exact hh, r⟩
theorem Txt.form {w : World} {base : Nat} {v : Value} {l : List (List UInt8)} (h : Txt w base v l) : (v = .slice none 0 0 ∧ l = []) ∨ ∃ g cap, v = .slice (some ⟨g, 0, none⟩) l.length cap ∧ base ≤ g := by
  rcases h.2 with ⟨h1, h2⟩ | ⟨g, cap, _, hv, hb, _⟩
  · exact Or.inl ⟨h1, List.length_eq_zero_iff.1 h2⟩
  · exact Or.inr ⟨g, cap, hv, hb⟩
theorem Txt.lower {w : World} {B B' : Nat} {v : Value} {l : List (List UInt8)} (h : Txt w B v l) (hB : B' ≤ B) : Txt w B' v l := by
  refine ⟨h.1, ?_⟩
  rcases h.2 with h1 | ⟨g, cap, cur, hv, hg, r⟩
  · exact Or.inl h1
  · exact Or.inr ⟨g, cap, cur, hv, Nat.le_trans hB hg, r⟩
theorem Txt.slice {w : World} {B : Nat} {v : Value} {l : List (List UInt8)} (h : Txt w B v l) : ∃ ad c, v = .slice ad l.length c := by
  rcases h.form with ⟨e, e2⟩ | ⟨g, cap, e, _⟩
  · exact ⟨_, _, by rw [e, e2]; rfl⟩
  · exact ⟨_, _, e⟩
theorem results_tmp3' {fn : Func} {t u v : Tmp} (h : fn.results = #[.tmp t, .tmp u, .tmp v]) (tmps : Array Value) (P : Program) (w : World) : (results fn tmps).run P w = .ok (.tuple #[tmps.getD t undef, tmps.getD u undef, tmps.getD v undef]) w := by
  simp [results, h]
theorem results_tmp4 {fn : Func} {t u v x : Tmp} (h : fn.results = #[.tmp t, .tmp u, .tmp v, .tmp x]) (tmps : Array Value) (P : Program) (w : World) : (results fn tmps).run P w = .ok (.tuple #[tmps.getD t undef, tmps.getD u undef, tmps.getD v undef, tmps.getD x undef]) w := by
  simp [results, h]
theorem Txt.cell {w : World} {base g cap n : Nat} {l : List (List UInt8)} (h : Txt w base (.slice (some ⟨g, 0, none⟩) n cap) l) (j : Nat) (hj : j < l.length) : w.cell? ⟨g, j, none⟩ = some (.string ⟨l[j].toArray⟩) := by
  have hn : n = l.length := by
    rcases h.2 with ⟨h1, _⟩ | ⟨_, _, _, hv, _⟩
    · cases h1
    · simp only [Value.slice.injEq] at hv; exact hv.2.1
  subst hn
  have := World.ownsRow.cellAt h j (by omega)
  rw [this, strVals_get, List.getElem?_eq_getElem hj]; rfl

set_option maxRecDepth 100000 in
/-- 'b = append(b, x)', x one text. -/
theorem app_str {ops : Array Oper} {rest : List Oper} {o : Oper} {a : Act} {Q : Exit → Act → World → Prop} {w : World} {s x : Operand} {v : Value} {l : List (List UInt8)} {n : List UInt8} (hgd : o.guard = none)
    (ho : o.op = .call { callee := .builtin .append, args := #[s, x], argTypes := #[26, 26] })
    (base : Nat) (hs : a.eval s = v) (hown : Txt w base v l) (hx : a.eval x = .slice (some ⟨w.heap.size, 0, none⟩) 1 1)
    (hlen : l.length < 4398046511104) (hbase : base ≤ w.heap.size)
    (h : ∀ g cap w', Txt w' base (.slice (some ⟨g, 0, none⟩) (l.length + 1) cap) (l ++ [n]) → Below base w w' → base ≤ g → w.grownBy w' v.ownBlock → wpList Tryz.prog ops Q rest (a.put o.dst (.slice (some ⟨g, 0, none⟩) (l.length + 1) cap)) w') :
    wpList Tryz.prog ops Q (o :: rest) a (w.alloc (.cells #[.string ⟨n.toArray⟩] 9)) := by
  obtain ⟨i0, hi, hz0, hz1, hz2⟩ := info_parts infoStr
  refine wpList_append_own _ hgd s x 26 ho base 9 i0 (.string ⟨#[]⟩) 1 16 Tryz.underlying26 hi hz0 hz1 hz2 rfl (by decide) v _ _ hs (World.ownsRow.alloc hown _) ⟨w.heap.size, 0, none⟩ 1 1 [.string ⟨n.toArray⟩] hx rfl
    (cell_one_new _ _ _) (by intro u hu; simp at hu; subst hu; rfl) (by unfold maxLen; omega) (by omega) (by simp; omega) ?_
  intro v' w' hown' hgrow _
  have e : strVals l ++ [.string ⟨n.toArray⟩] = strVals (l ++ [n]) := by
    rw [strVals_append]; rfl
  rw [e] at hown'
  have hbuf : Txt w' base v' (l ++ [n]) := by unfold Txt; rw [List.length_append]; exact hown'
  have hb : Below base w w' := ((Below.refl base w).alloc hbase _).grown hgrow (by simp; omega) (fun k hk => (World.ownsRow.lt hown k hk).1)
  have hg2 : w.grownBy w' v.ownBlock := by
    refine ⟨hgrow.os, hgrow.tape, hgrow.output, Nat.le_trans (by simp) hgrow.size, fun k hk hne => ?_⟩
    rw [hgrow.block k (by simp; omega) hne]
    exact Below.heap_alloc w _ k hk
  rcases hbuf.form with ⟨_, hn⟩ | ⟨g, cap, rfl, hg⟩
  · simp at hn
  · rw [List.length_append] at hbuf ⊢
    exact h g cap w' hbuf hb hg hg2
end Go.Proofs.YtmfbkelhegdmpaaGreatDoor
/- Small laws at this dump: slices of numbers that the call itself makes. -/
namespace Go.Proofs.YtmfbkelhegdmpaaGreatDoor
open Go.RowKit

theorem infoInt : (Tryz.prog.info? 3).map (fun i => (i.zero, i.size, i.bytes)) = some (some (.int .i64 0), 1, 8) := by kernel_rfl
def intVals (l : List Nat) : List Value := l.map fun (b : Nat) => Value.int .i64 (b : Int)
theorem intVals_append (a b : List Nat) : intVals (a ++ b) = intVals a ++ intVals b := List.map_append
theorem intVals_length (a : List Nat) : (intVals a).length = a.length := List.length_map _
theorem intVals_get (a : List Nat) (j : Nat) : (intVals a)[j]? = (a[j]?).map fun (b : Nat) => Value.int .i64 (b : Int) := List.getElem?_map ..

/-- v is a slice of the call's own (from block base on) that holds just these numbers. -/
def Ints (w : World) (base : Nat) (v : Value) (l : List Nat) : Prop := w.ownsRow base 3 1 v l.length (intVals l)
theorem Ints.nil (w : World) (base : Nat) : Ints w base (.slice none 0 0) [] := World.ownsRow_nil _ _ _ _
theorem Ints.alloc {w : World} {base : Nat} {v : Value} {l : List Nat} (h : Ints w base v l) (o : Obj) : Ints (w.alloc o) base v l := World.ownsRow.alloc h o
theorem Ints.drew {w : World} {base : Nat} {v : Value} {l : List Nat} (h : Ints w base v l) : Ints w.drew base v l := World.ownsRow.drew h
theorem Ints.below {w w' : World} {base : Nat} {v : Value} {l : List Nat} (h : Ints w base v l) (hb : Below w.heap.size w w') : Ints w' base v l := by
  refine ⟨h.1, ?_⟩
  rcases h.2 with h1 | ⟨g, cap, cur, hv, hg, hh, r⟩
  · exact Or.inl h1
  · have hlt : g < w.heap.size := (Array.getElem?_eq_some_iff.1 hh).1
    exact Or.inr ⟨g, cap, cur, hv, hg, by rw [hb.block g hlt]; exact hh, r⟩
theorem Ints.form {w : World} {base : Nat} {v : Value} {l : List Nat} (h : Ints w base v l) : (v = .slice none 0 0 ∧ l = []) ∨ ∃ g cap, v = .slice (some ⟨g, 0, none⟩) l.length cap ∧ base ≤ g := by
  rcases h.2 with ⟨h1, h2⟩ | ⟨g, cap, _, hv, hb, _⟩
  · exact Or.inl ⟨h1, List.length_eq_zero_iff.1 h2⟩
  · exact Or.inr ⟨g, cap, hv, hb⟩
theorem Ints.lower {w : World} {B B' : Nat} {v : Value} {l : List Nat} (h : Ints w B v l) (hB : B' ≤ B) : Ints w B' v l := by
  refine ⟨h.1, ?_⟩
  rcases h.2 with h1 | ⟨g, cap, cur, hv, hg, r⟩
  · exact Or.inl h1
  · exact Or.inr ⟨g, cap, cur, hv, Nat.le_trans hB hg, r⟩
theorem Ints.slice {w : World} {B : Nat} {v : Value} {l : List Nat} (h : Ints w B v l) : ∃ ad c, v = .slice ad l.length c := by
  rcases h.form with ⟨e, e2⟩ | ⟨g, cap, e, _⟩
  · exact ⟨_, _, by rw [e, e2]; rfl⟩
  · exact ⟨_, _, e⟩
theorem Ints.cell {w : World} {base g cap n : Nat} {l : List Nat} (h : Ints w base (.slice (some ⟨g, 0, none⟩) n cap) l) (j : Nat) (hj : j < l.length) : w.cell? ⟨g, j, none⟩ = some (.int .i64 (l[j] : Int)) := by
  have hn : n = l.length := by
    rcases h.2 with ⟨h1, _⟩ | ⟨_, _, _, hv, _⟩
    · cases h1
    · simp only [Value.slice.injEq] at hv; exact hv.2.1
  subst hn
  have := World.ownsRow.cellAt h j (by omega)
  rw [this, intVals_get, List.getElem?_eq_getElem hj]; rfl

set_option maxRecDepth 100000 in
/-- 'b = append(b, x)', x one number. -/
theorem app_int {ops : Array Oper} {rest : List Oper} {o : Oper} {a : Act} {Q : Exit → Act → World → Prop} {w : World} {s x : Operand} {v : Value} {l : List Nat} {n : Nat} (hgd : o.guard = none)
    (ho : o.op = .call { callee := .builtin .append, args := #[s, x], argTypes := #[54, 54] })
    (base : Nat) (hs : a.eval s = v) (hown : Ints w base v l) (hx : a.eval x = .slice (some ⟨w.heap.size, 0, none⟩) 1 1)
    (hlen : l.length < 4398046511104) (hbase : base ≤ w.heap.size)
    (h : ∀ g cap w', Ints w' base (.slice (some ⟨g, 0, none⟩) (l.length + 1) cap) (l ++ [n]) → Below base w w' → base ≤ g → w.grownBy w' v.ownBlock → wpList Tryz.prog ops Q rest (a.put o.dst (.slice (some ⟨g, 0, none⟩) (l.length + 1) cap)) w') :
    wpList Tryz.prog ops Q (o :: rest) a (w.alloc (.cells #[.int .i64 (n : Int)] 3)) := by
  obtain ⟨i0, hi, hz0, hz1, hz2⟩ := info_parts infoInt
  refine wpList_append_own _ hgd s x 54 ho base 3 i0 (.int .i64 0) 1 8 Tryz.underlying54 hi hz0 hz1 hz2 rfl (by decide) v _ _ hs (World.ownsRow.alloc hown _) ⟨w.heap.size, 0, none⟩ 1 1 [.int .i64 (n : Int)] hx rfl
    (cell_one_new _ _ _) (by intro u hu; simp at hu; subst hu; rfl) (by unfold maxLen; omega) (by omega) (by simp; omega) ?_
  intro v' w' hown' hgrow _
  have e : intVals l ++ [.int .i64 (n : Int)] = intVals (l ++ [n]) := by
    rw [intVals_append]; rfl
  rw [e] at hown'
  have hbuf : Ints w' base v' (l ++ [n]) := by unfold Ints; rw [List.length_append]; exact hown'
  have hb : Below base w w' := ((Below.refl base w).alloc hbase _).grown hgrow (by simp; omega) (fun k hk => (World.ownsRow.lt hown k hk).1)
  have hg2 : w.grownBy w' v.ownBlock := by
    refine ⟨hgrow.os, hgrow.tape, hgrow.output, Nat.le_trans (by simp) hgrow.size, fun k hk hne => ?_⟩
    rw [hgrow.block k (by simp; omega) hne]
    exact Below.heap_alloc w _ k hk
  rcases hbuf.form with ⟨_, hn⟩ | ⟨g, cap, rfl, hg⟩
  · simp at hn
  · rw [List.length_append] at hbuf ⊢
    exact h g cap w' hbuf hb hg hg2
end Go.Proofs.YtmfbkelhegdmpaaGreatDoor
/- The plain law of chapter 11 (disk): devices as lists; no program in sight. -/
namespace Go.Proofs.Disk11

/-- A write of the cache: where, and its bytes. -/
abbrev Wr := Int × List UInt8
/-- A device: its blocks, its cache. -/
abbrev Dev := List (List UInt8) × List Wr

/-- n bytes from p on lie within a device of so many bytes. -/
def inside (sz p n : Int) : Bool := decide (0 ≤ p) && (decide (0 ≤ n) && (decide (p ≤ sz) && decide (n ≤ sz - p)))
theorem inside_iff (sz p n : Int) : inside sz p n = true ↔ 0 ≤ p ∧ 0 ≤ n ∧ p ≤ sz ∧ n ≤ sz - p := by
  unfold inside; simp

/-- The first fault of a device, and its number. -/
def badBlock (b : List UInt8) : Bool := b.length != 64
def badWrite (sz : Int) (w : Wr) : Bool := w.2.isEmpty || !inside sz w.1 w.2.length
def size (d : Dev) : Nat := 64 * d.1.length
def chk (d : Dev) : Nat × Nat :=
  if d.1.length < 1 ∨ 4096 < d.1.length then (5, 0) else
  match d.1.findIdx? badBlock with
  | some i => (3, i)
  | none => if 1000 < d.2.length then (5, 0) else
    match d.2.findIdx? (badWrite (size d)) with
    | some i => (2, i)
    | none => (0, 0)

/-- A write laid onto bytes. -/
def layF (b : List UInt8) (p : Nat) (x : List UInt8) : List UInt8 := b.take p ++ x ++ b.drop (p + x.length)
theorem layF_nil (b : List UInt8) (p : Nat) : layF b p [] = b := by unfold layF; simp
theorem layF_length {b x : List UInt8} {p : Nat} (h : p + x.length ≤ b.length) : (layF b p x).length = b.length := by
  unfold layF; simp; omega
theorem layF_get {b x : List UInt8} {p : Nat} (h : p + x.length ≤ b.length) (i : Nat) : (layF b p x)[i]? = if p ≤ i ∧ i < p + x.length then x[i - p]? else b[i]? := by
  unfold layF
  by_cases h1 : i < p
  · rw [if_neg (by omega), List.append_assoc, List.getElem?_append_left (by simp; omega), List.getElem?_take_of_lt h1]
  · by_cases h2 : i < p + x.length
    · rw [if_pos (by omega), List.append_assoc, List.getElem?_append_right (by simp; omega), List.length_take, Nat.min_eq_left (by omega), List.getElem?_append_left (by omega)]
    · rw [if_neg (by omega), List.getElem?_append_right (by simp; omega), List.getElem?_drop]
      congr 1
      simp; omega
/-- Laying in two steps. -/
theorem layF_append {b x y : List UInt8} {p : Nat} (h : p + x.length + y.length ≤ b.length) : layF (layF b p x) (p + x.length) y = layF b p (x ++ y) := by
  apply List.ext_getElem?
  intro i
  have hl : (layF b p x).length = b.length := layF_length (by omega)
  rw [layF_get (by rw [hl]; omega), layF_get (by omega), layF_get (by simp; omega)]
  by_cases h1 : p ≤ i ∧ i < p + x.length
  · rw [if_neg (by omega), if_pos h1, if_pos (by simp; omega), List.getElem?_append_left (by omega)]
  · by_cases h2 : p + x.length ≤ i ∧ i < p + x.length + y.length
    · rw [if_pos h2, if_pos (by simp; omega), List.getElem?_append_right (by omega)]
      congr 1; omega
    · rw [if_neg h2, if_neg h1, if_neg (by simp; omega)]

/-- All bytes of the first k writes' device. -/
def readK (d : Dev) (k : Nat) : List UInt8 := (d.2.take k).foldl (fun b w => layF b w.1.toNat w.2) d.1.flatten
def readAll (d : Dev) : List UInt8 := d.2.foldl (fun b w => layF b w.1.toNat w.2) d.1.flatten
theorem readK_all (d : Dev) : readK d d.2.length = readAll d := by unfold readK readAll; rw [List.take_length]

/-- The blocks of bytes. -/
def chunk (b : List UInt8) : List (List UInt8) := (List.range (b.length / 64)).map fun i => (b.drop (64 * i)).take 64
theorem chunk_length (b : List UInt8) : (chunk b).length = b.length / 64 := by unfold chunk; simp
theorem chunk_get (b : List UInt8) (i : Nat) (h : i < b.length / 64) : (chunk b)[i]? = some ((b.drop (64 * i)).take 64) := by
  unfold chunk; simp [h]
def Whole (bs : List (List UInt8)) : Prop := ∀ b ∈ bs, b.length = 64
theorem flatten_length : ∀ {bs : List (List UInt8)}, Whole bs → bs.flatten.length = 64 * bs.length
  | [], _ => rfl
  | b :: bs, h => by
    have := flatten_length (bs := bs) (fun x hx => h x (List.mem_cons_of_mem _ hx))
    have h1 := h b List.mem_cons_self
    rw [List.flatten_cons, List.length_append, this, h1, List.length_cons]; omega
theorem flatten_drop : ∀ {bs : List (List UInt8)} (i : Nat), Whole bs → bs.flatten.drop (64 * i) = (bs.drop i).flatten
  | bs, 0, _ => by simp
  | [], i + 1, _ => by simp
  | b :: bs, i + 1, h => by
    have h1 := h b List.mem_cons_self
    rw [List.flatten_cons, List.drop_append, List.drop_of_length_le (by omega), List.nil_append, show 64 * (i + 1) - b.length = 64 * i by omega, flatten_drop i (fun x hx => h x (List.mem_cons_of_mem _ hx)), List.drop_succ_cons]
theorem chunk_flatten {bs : List (List UInt8)} (h : Whole bs) : chunk bs.flatten = bs := by
  have hl := flatten_length h
  apply List.ext_getElem?
  intro i
  by_cases hi : i < bs.length
  · rw [chunk_get _ _ (by omega), flatten_drop i h, List.drop_eq_getElem_cons hi, List.flatten_cons, List.take_append_of_le_length (by rw [h _ (List.getElem_mem hi)]; exact Nat.le_refl _), List.take_of_length_le (by rw [h _ (List.getElem_mem hi)]; exact Nat.le_refl _), List.getElem?_eq_getElem hi]
  · rw [List.getElem?_eq_none (by rw [chunk_length]; omega), List.getElem?_eq_none (by omega)]
theorem flatten_get {bs : List (List UInt8)} (h : Whole bs) (i j : Nat) (hj : j < 64) : bs.flatten[64 * i + j]? = (bs[i]?).bind fun b => b[j]? := by
  rw [← List.getElem?_drop, flatten_drop i h]
  by_cases hi : i < bs.length
  · rw [List.drop_eq_getElem_cons hi, List.flatten_cons, List.getElem?_append_left (by rw [h _ (List.getElem_mem hi)]; exact hj), List.getElem?_eq_getElem hi]; rfl
  · rw [List.drop_of_length_le (by omega), List.getElem?_eq_none (l := bs) (by omega)]; rfl
theorem chunk_whole (b : List UInt8) : Whole (chunk b) := by
  intro x hx
  unfold chunk at hx
  rw [List.mem_map] at hx
  obtain ⟨i, hi, rfl⟩ := hx
  rw [List.mem_range] at hi
  rw [List.length_take, List.length_drop]; omega
theorem flatten_chunk {b : List UInt8} {n : Nat} (h : b.length = 64 * n) : (chunk b).flatten = b := by
  have hc := flatten_length (chunk_whole b)
  rw [chunk_length, h, Nat.mul_div_cancel_left _ (by omega : 0 < 64)] at hc
  apply List.ext_getElem?
  intro i
  by_cases hi : i < b.length
  · have e : i = 64 * (i / 64) + i % 64 := by omega
    rw [e, flatten_get (chunk_whole b) _ _ (by omega), chunk_get _ _ (by omega)]
    simp only [Option.bind_some]
    rw [List.getElem?_take_of_lt (by omega), List.getElem?_drop]
  · rw [List.getElem?_eq_none (by omega), List.getElem?_eq_none (by omega)]

/-- One step of the program's lay: a part of the data within one block. -/
theorem lay_step {bs : List (List UInt8)} (hw : Whole bs) {k f : Nat} {x : List UInt8} (hk : k < bs.length) (hf : f + x.length ≤ 64) :
    (bs.set k (layF bs[k] f x)).flatten = layF bs.flatten (64 * k + f) x ∧ Whole (bs.set k (layF bs[k] f x)) := by
  have hbk := hw _ (List.getElem_mem hk)
  have hw' : Whole (bs.set k (layF bs[k] f x)) := by
    intro b hb
    rcases List.mem_or_eq_of_mem_set hb with h | h
    · exact hw b h
    · rw [h, layF_length (by omega)]; exact hbk
  refine ⟨?_, hw'⟩
  have hl := flatten_length hw
  apply List.ext_getElem?
  intro i
  rw [layF_get (by omega)]
  have e : i = 64 * (i / 64) + i % 64 := by omega
  rw [e, flatten_get hw' _ _ (by omega), flatten_get hw _ _ (by omega)]
  generalize i / 64 = q at *
  have hm : i % 64 < 64 := by omega
  generalize i % 64 = m at *
  by_cases hq : q = k
  · subst hq
    rw [List.getElem?_set_self hk]
    simp only [Option.bind_some, List.getElem?_eq_getElem hk]
    rw [layF_get (by omega)]
    by_cases h1 : f ≤ m ∧ m < f + x.length
    · rw [if_pos h1, if_pos (by omega)]; congr 1; omega
    · rw [if_neg h1, if_neg (by omega)]
  · rw [List.getElem?_set_ne (by omega), if_neg]
    omega

/-- What the last write that has a byte says of it. -/
def cover (w : Wr) (p : Nat) : Option UInt8 := if w.1 ≤ p ∧ (p : Int) < w.1 + w.2.length then w.2[(p - w.1).toNat]? else none
def look : List Wr → Nat → Option UInt8
  | [], _ => none
  | w :: ws, p => (look ws p).or (cover w p)
theorem look_snoc : ∀ (ws : List Wr) (w : Wr) (p : Nat), look (ws ++ [w]) p = (cover w p).or (look ws p)
  | [], w, p => by simp [look]
  | v :: ws, w, p => by
    rw [List.cons_append, look, look_snoc ws w p, look]
    cases cover w p <;> simp
/-- A device that Check takes. -/
def Good (d : Dev) : Prop := 1 ≤ d.1.length ∧ d.1.length ≤ 4096 ∧ Whole d.1 ∧ d.2.length ≤ 1000 ∧ ∀ w ∈ d.2, w.2 ≠ [] ∧ 0 ≤ w.1 ∧ w.1 + w.2.length ≤ size d
theorem fold_length : ∀ (ws : List Wr) (b : List UInt8), (∀ w ∈ ws, 0 ≤ w.1 ∧ w.1 + w.2.length ≤ b.length) → (ws.foldl (fun b w => layF b w.1.toNat w.2) b).length = b.length
  | [], _, _ => rfl
  | w :: ws, b, h => by
    have h1 := h w List.mem_cons_self
    have hl : (layF b w.1.toNat w.2).length = b.length := layF_length (by omega)
    rw [List.foldl_cons, fold_length ws _ (fun v hv => by rw [hl]; exact h v (List.mem_cons_of_mem _ hv)), hl]
theorem fold_get : ∀ (ws : List Wr) (b : List UInt8), (∀ w ∈ ws, 0 ≤ w.1 ∧ w.1 + w.2.length ≤ b.length) → ∀ (p : Nat), (ws.foldl (fun b w => layF b w.1.toNat w.2) b)[p]? = (look ws p).or b[p]?
  | [], _, _, _ => by simp [look]
  | w :: ws, b, h, p => by
    have h1 := h w List.mem_cons_self
    have hl : (layF b w.1.toNat w.2).length = b.length := layF_length (by omega)
    rw [List.foldl_cons, fold_get ws _ (fun v hv => by rw [hl]; exact h v (List.mem_cons_of_mem _ hv)), layF_get (by omega), look]
    cases hlk : look ws p with
    | some x => simp
    | none =>
      simp only [Option.none_or]
      unfold cover
      by_cases hc : w.1.toNat ≤ p ∧ p < w.1.toNat + w.2.length
      · rw [if_pos hc, if_pos (by omega)]
        have e : p - w.1.toNat = (p - w.1).toNat := by omega
        rw [e, List.getElem?_eq_getElem (by omega)]; simp
      · rw [if_neg hc, if_neg (by omega)]; simp
theorem readAll_get {d : Dev} (h : Good d) (p : Nat) : (readAll d)[p]? = (look d.2 p).or d.1.flatten[p]? := by
  obtain ⟨_, _, hw, _, hc⟩ := h
  exact fold_get _ _ (fun w hw' => by rw [flatten_length hw]; have := hc w hw'; exact ⟨this.2.1, by have := this.2.2; unfold size at this; omega⟩) p
theorem readK_length {d : Dev} (h : Good d) (k : Nat) : (readK d k).length = 64 * d.1.length := by
  obtain ⟨_, _, hw, _, hc⟩ := h
  unfold readK
  rw [fold_length _ _ (fun w hw' => by rw [flatten_length hw]; have := hc w (List.mem_of_mem_take hw'); exact ⟨this.2.1, by have := this.2.2; unfold size at this; omega⟩), flatten_length hw]
theorem readAll_length {d : Dev} (h : Good d) : (readAll d).length = 64 * d.1.length := by rw [← readK_all, readK_length h]
theorem readK_succ {d : Dev} {k : Nat} (h : k < d.2.length) : readK d (k + 1) = layF (readK d k) d.2[k].1.toNat d.2[k].2 := by
  unfold readK
  rw [List.take_succ_eq_append_getElem h, List.foldl_append]; rfl

theorem chk_good (d : Dev) : chk d = (0, 0) ↔ Good d := by
  unfold chk Good
  constructor
  · intro h
    split at h
    · simp at h
    · rename_i h1
      split at h
      · simp at h
      · rename_i h2
        split at h
        · simp at h
        · rename_i h3
          split at h
          · simp at h
          · rename_i h4
            rw [List.findIdx?_eq_none_iff] at h2 h4
            refine ⟨by omega, by omega, fun b hb => ?_, by omega, fun w hw => ?_⟩
            · have := h2 b hb
              unfold badBlock at this
              simpa using this
            · have := h4 w hw
              unfold badWrite at this
              rw [Bool.or_eq_false_iff, Bool.not_eq_false', inside_iff] at this
              obtain ⟨a, b, c, e, f⟩ := this
              refine ⟨fun e => by rw [e] at a; simp at a, b, by omega⟩
  · rintro ⟨h1, h2, h3, h4, h5⟩
    rw [if_neg (by omega)]
    have e1 : d.1.findIdx? badBlock = none := by
      rw [List.findIdx?_eq_none_iff]
      intro b hb
      unfold badBlock
      simpa using h3 b hb
    have e2 : d.2.findIdx? (badWrite (size d)) = none := by
      rw [List.findIdx?_eq_none_iff]
      intro w hw
      obtain ⟨a, b, c⟩ := h5 w hw
      unfold badWrite
      rw [Bool.or_eq_false_iff, Bool.not_eq_false', inside_iff]
      exact ⟨by simpa using a, b, by omega, by omega, by omega⟩
    rw [e1, e2]
    dsimp only
    rw [if_neg (by omega)]

/-- What New, Write, Read, Sync, Crash, Crashes, Dirty answer. -/
def none0 : Dev := ([], [])
def newD (n : Int) : Dev × Nat := if n < 1 ∨ 4096 < n then (none0, 2) else ((List.replicate n.toNat (List.replicate 64 0), []), 0)
def writeD (d : Dev) (p : Int) (x : List UInt8) : Dev × Nat :=
  if (chk d).1 ≠ 0 then (none0, (chk d).1) else if (x.isEmpty || !inside (size d) p x.length) = true then (none0, 2) else if 1000 ≤ d.2.length then (none0, 5) else ((d.1, d.2 ++ [(p, x)]), 0)
def readD (d : Dev) (p n : Int) : List UInt8 × Nat :=
  if (chk d).1 ≠ 0 then ([], (chk d).1) else if inside (size d) p n = false then ([], 2) else (((readAll d).drop p.toNat).take n.toNat, 0)
def syncD (d : Dev) : Dev × Nat := if (chk d).1 ≠ 0 then (none0, (chk d).1) else ((chunk (readAll d), []), 0)
def nextD (d : Dev) (k : Nat) : Wr := (d.2[k]?).getD (0, [])
def crashD (d : Dev) (keep torn : Int) : Dev × Nat :=
  if (chk d).1 ≠ 0 then (none0, (chk d).1) else if keep < 0 ∨ (d.2.length : Int) < keep then (none0, 2) else
  if torn < 0 ∨ ((nextD d keep.toNat).2.length : Int) < torn then (none0, 2) else
  ((chunk (layF (readK d keep.toNat) (nextD d keep.toNat).1.toNat ((nextD d keep.toNat).2.take torn.toNat)), []), 0)
def crashesD (d : Dev) : Nat × Nat := if (chk d).1 ≠ 0 then (0, (chk d).1) else (1 + (d.2.map fun w => w.2.length).sum, 0)
def dirtyL (d : Dev) : List Nat := (List.range d.1.length).filter fun i => (chunk (readAll d))[i]? != d.1[i]?
def dirtyD (d : Dev) : List Nat × Nat := if (chk d).1 ≠ 0 then ([], (chk d).1) else (dirtyL d, 0)
theorem chk_ok {d : Dev} (h : (chk d).1 = 0) : chk d = (0, 0) := by
  unfold chk at *
  split at h
  · cases h
  · rename_i h1
    rw [if_neg h1]
    split at h
    · cases h
    · rename_i h2
      split at h
      · cases h
      · rename_i h3
        rw [if_neg h3]
        split at h
        · cases h
        · rename_i h4; first | rfl | rw [h4]
end Go.Proofs.Disk11
/- Small laws: slices that are read, wherever they lie; devices of chapter 11 as values. -/
namespace Go.Proofs.YtmfbkelhegdmpaaGreatDoor
open Go.RowKit Disk11

theorem cell1 {w : World} {b t : Nat} {x : Value} (h : w.heap[b]? = some (.cells #[x] t (0, 0))) : w.cell? ⟨b, 0, none⟩ = some x := by simp [World.cell?, h]
theorem frozen1 {w : World} {b t : Nat} {x : Value} (h : w.heap[b]? = some (.cells #[x] t (0, 0))) : w.frozen? ⟨b, 0, none⟩ = false := by simp [World.frozen?, h]
theorem cell2_0 {w : World} {b t : Nat} {x y : Value} (h : w.heap[b]? = some (.cells #[x, y] t (0, 0))) : w.cell? ⟨b, 0, none⟩ = some x := by simp [World.cell?, h]
theorem cell2_1 {w : World} {b t : Nat} {x y : Value} (h : w.heap[b]? = some (.cells #[x, y] t (0, 0))) : w.cell? ⟨b, 1, none⟩ = some y := by simp [World.cell?, h]
theorem frozen2 {w : World} {b t : Nat} {x y : Value} (h : w.heap[b]? = some (.cells #[x, y] t (0, 0))) (j : Nat) : w.frozen? ⟨b, j, none⟩ = false := by simp [World.frozen?, h]
theorem cell_next {w : World} {a : Addr} {i : Nat} {x : Value} (h : w.cell? (a.add (i + 1)) = some x) : w.cell? { block := (a.add i).block, off := (a.add i).off + 1 } = some x := by
  have e : a.add (i + 1) = { block := (a.add i).block, off := (a.add i).off + 1 } := by
    unfold Addr.add
    rw [if_neg (by omega)]
    by_cases hi : i = 0
    · simp [hi]
    · simp [hi]; omega
  rw [← e]; exact h
theorem heap_below {w w' : World} {b : Nat} {o : Obj} (h : w.heap[b]? = some o) (hb : Below w.heap.size w w') : w'.heap[b]? = some o := (hb.block b (Array.getElem?_eq_some_iff.1 h).1).trans h

theorem alloc2 (w : World) (a b : Obj) : ((w.alloc a).alloc b).heap[w.heap.size]? = some a ∧ ((w.alloc a).alloc b).heap[w.heap.size + 1]? = some b ∧ ((w.alloc a).alloc b).heap.size = w.heap.size + 2 ∧ Below w.heap.size w ((w.alloc a).alloc b) := by
  have e1 : (w.alloc a).heap.size = w.heap.size + 1 := World.size_alloc ..
  have h1 := World.alloc_heap_new w a
  have h2 := World.alloc_heap_new (w.alloc a) b
  rw [e1] at h2
  refine ⟨?_, h2, by rw [World.size_alloc, e1], Go.Joins.below_alloc2 w a b⟩
  rw [Below.heap_alloc _ _ _ (by omega)]; exact h1

/-- v is a slice of n elements of so many cells each; its cells hold xs. -/
def Row (w : World) (size : Nat) (v : Value) (n : Nat) (xs : List Value) : Prop :=
  xs.length = n * size ∧ ∃ ad c, v = .slice ad n c ∧ n ≤ c ∧ ∀ j x, xs[j]? = some x → ∃ a, ad = some a ∧ w.cell? (a.add j) = some x
theorem cell_lt {w : World} {a : Addr} {x : Value} (h : w.cell? a = some x) : a.block < w.heap.size := by
  rcases Nat.lt_or_ge a.block w.heap.size with k | k
  · exact k
  · unfold World.cell? at h
    rw [Array.getElem?_eq_none k] at h; cases h
theorem cell_below {w w' : World} {a : Addr} {x : Value} (hb : Below w.heap.size w w') (h : w.cell? a = some x) : w'.cell? a = some x := by
  rw [hb.cell (cell_lt h)]; exact h
theorem Row.below {w w' : World} {size n : Nat} {v : Value} {xs : List Value} (h : Row w size v n xs) (hb : Below w.heap.size w w') : Row w' size v n xs := by
  obtain ⟨h1, ad, c, h2, h3, h4⟩ := h
  exact ⟨h1, ad, c, h2, h3, fun j x hx => by obtain ⟨a, ha, hc⟩ := h4 j x hx; exact ⟨a, ha, cell_below hb hc⟩⟩
theorem Row.drew {w : World} {size n : Nat} {v : Value} {xs : List Value} (h : Row w size v n xs) : Row w.drew size v n xs := h.below (Below.refl _ w).drew
theorem Row.alloc {w : World} {size n : Nat} {v : Value} {xs : List Value} (h : Row w size v n xs) (o : Obj) : Row (w.alloc o) size v n xs := h.below (Go.Joins.below_alloc1 w o)
theorem Row.slice {w : World} {size n : Nat} {v : Value} {xs : List Value} (h : Row w size v n xs) : ∃ ad c, v = .slice ad n c ∧ n ≤ c := by
  obtain ⟨_, ad, c, h2, h3, _⟩ := h
  exact ⟨ad, c, h2, h3⟩
theorem Row.cell {w : World} {size n c : Nat} {ad : Option Addr} {xs : List Value} (h : Row w size (.slice ad n c) n xs) {j : Nat} {x : Value} (hj : xs[j]? = some x) : ∃ a, ad = some a ∧ w.cell? (a.add j) = some x := by
  obtain ⟨_, ad', c', h2, h3, h4⟩ := h
  cases h2
  exact h4 j x hj
theorem Row.nil (w : World) (size : Nat) : Row w size (.slice none 0 0) 0 [] := ⟨by simp, _, _, rfl, Nat.le_refl _, fun j x h => by simp at h⟩
theorem Row.of_own {w : World} {base e size n : Nat} {v : Value} {xs : List Value} (h : w.ownsRow base e size v n xs) : Row w size v n xs := by
  refine ⟨h.1, ?_⟩
  rcases h.2 with ⟨rfl, rfl⟩ | ⟨g, cap, cur, rfl, hb, hg, hn, hr⟩
  · refine ⟨_, _, rfl, Nat.le_refl _, fun j x hx => ?_⟩
    have := h.1
    rw [Nat.zero_mul] at this
    rw [List.length_eq_zero_iff.1 this] at hx; simp at hx
  · refine ⟨_, _, rfl, hn, fun j x hx => ⟨_, rfl, ?_⟩⟩
    have hj : j < n * size := by
      rw [← h.1]
      rcases Nat.lt_or_ge j xs.length with k | k
      · exact k
      · rw [List.getElem?_eq_none k] at hx; cases hx
    rw [addr_add, World.ownsRow.cellAt h j hj, hx]

theorem own_below {w w' : World} {base e size n : Nat} {v : Value} {xs : List Value} (h : w.ownsRow base e size v n xs) (hb : Below w.heap.size w w') : w'.ownsRow base e size v n xs := by
  refine ⟨h.1, ?_⟩
  rcases h.2 with h1 | ⟨g, cap, cur, hv, hg, hh, r⟩
  · exact Or.inl h1
  · exact Or.inr ⟨g, cap, cur, hv, hg, heap_below hh hb, r⟩
theorem own_lower {w : World} {B B' e size n : Nat} {v : Value} {xs : List Value} (h : w.ownsRow B e size v n xs) (hB : B' ≤ B) : w.ownsRow B' e size v n xs := by
  refine ⟨h.1, ?_⟩
  rcases h.2 with h1 | ⟨g, cap, cur, hv, hg, r⟩
  · exact Or.inl h1
  · exact Or.inr ⟨g, cap, cur, hv, Nat.le_trans hB hg, r⟩
theorem own_slice {w : World} {base e size n : Nat} {v : Value} {xs : List Value} (h : w.ownsRow base e size v n xs) : ∃ ad c, v = .slice ad n c := by
  rcases h.2 with ⟨h1, h2⟩ | ⟨g, cap, cur, hv, _⟩
  · exact ⟨_, _, by rw [h1, h2]⟩
  · exact ⟨_, _, hv⟩
theorem grown_cell (W : World) (b j : Nat) (u : Value) : W.grownBy (W.setCell ⟨b, j, none⟩ u) (some b) :=
  ⟨rfl, rfl, rfl, by simp [World.setCell, Array.size_modify], fun k _ hk => Below.heap_setCell _ _ _ k (fun e => hk (by rw [e]))⟩
theorem own_set {w : World} {B e size n b j : Nat} {v u : Value} {xs : List Value} (h : w.ownsRow B e size v n xs) (hb : b < B) : (w.setCell ⟨b, j, none⟩ u).ownsRow B e size v n xs :=
  World.ownsRow.kept h (grown_cell w b j u) (by
    rcases h.2 with ⟨rfl, _⟩ | ⟨g, cap, cur, rfl, hg, _⟩
    · exact Or.inl rfl
    · exact Or.inr (fun e => by simp only [Value.ownBlock, Option.some.injEq] at e; omega))
theorem below_set {w w1 : World} {B b j : Nat} {u : Value} (h : Below B w w1) (hb : B ≤ b) : Below B w (w1.setCell ⟨b, j, none⟩ u) := h.setCell (p := ⟨b, j, none⟩) hb u
/-- The writes of a cache as values. -/
def wrVals (l : List Wr) : List Value := l.flatMap fun w => [.int .i64 w.1, .string ⟨w.2.toArray⟩]
theorem wrVals_append (a b : List Wr) : wrVals (a ++ b) = wrVals a ++ wrVals b := List.flatMap_append
theorem wrVals_length : ∀ (a : List Wr), (wrVals a).length = a.length * 2
  | [] => rfl
  | w :: a => by
    have := wrVals_length a
    unfold wrVals at *
    rw [List.flatMap_cons, List.length_append, this, List.length_cons]
    simp; omega
theorem wrVals_at : ∀ (l : List Wr) (i : Nat) (h : i < l.length), (wrVals l)[i * 2]? = some (.int .i64 l[i].1) ∧ (wrVals l)[i * 2 + 1]? = some (.string ⟨l[i].2.toArray⟩)
  | [], i, h => by simp at h
  | w :: l, 0, _ => ⟨rfl, rfl⟩
  | w :: l, i + 1, h => by
    have := wrVals_at l i (by simpa using h)
    unfold wrVals at *
    rw [List.flatMap_cons, show (i + 1) * 2 = i * 2 + 2 by omega, show i * 2 + 2 + 1 = i * 2 + 1 + 2 by omega]
    exact this
theorem strVals_at (l : List (List UInt8)) (i : Nat) (h : i < l.length) : (strVals l)[i]? = some (.string ⟨l[i].toArray⟩) := by
  rw [strVals_get, List.getElem?_eq_getElem h]; rfl

/-- v is this device. -/
def DiskIs (w : World) (d : Dev) (v : Value) : Prop := ∃ vb vc, v = .agg #[vb, vc] ∧ Row w 1 vb d.1.length (strVals d.1) ∧ Row w 2 vc d.2.length (wrVals d.2)
theorem DiskIs.below {w w' : World} {d : Dev} {v : Value} (h : DiskIs w d v) (hb : Below w.heap.size w w') : DiskIs w' d v := by
  obtain ⟨vb, vc, h1, h2, h3⟩ := h
  exact ⟨vb, vc, h1, h2.below hb, h3.below hb⟩
/-- Its cells, written out. -/
theorem DiskIs.form {w : World} {d : Dev} {v : Value} (h : DiskIs w d v) : ∃ ab cb ac cc, v = .agg #[.slice ab d.1.length cb, .slice ac d.2.length cc] ∧ d.1.length ≤ cb ∧ d.2.length ≤ cc ∧
    (∀ i (hi : i < d.1.length), ∃ a, ab = some a ∧ w.cell? (a.add i) = some (.string ⟨d.1[i].toArray⟩)) ∧
    (∀ i (hi : i < d.2.length), ∃ a, ac = some a ∧ w.cell? (a.add (i * 2)) = some (.int .i64 d.2[i].1) ∧ w.cell? (a.add (i * 2 + 1)) = some (.string ⟨d.2[i].2.toArray⟩)) := by
  obtain ⟨vb, vc, rfl, h1, h2⟩ := h
  obtain ⟨ab, cb, rfl, hb⟩ := h1.slice
  obtain ⟨ac, cc, rfl, hc⟩ := h2.slice
  refine ⟨ab, cb, ac, cc, rfl, hb, hc, fun i hi => h1.cell (strVals_at _ i hi), fun i hi => ?_⟩
  obtain ⟨a, e1, k1⟩ := h2.cell (wrVals_at _ i hi).1
  obtain ⟨a', e2, k2⟩ := h2.cell (wrVals_at _ i hi).2
  rw [e1] at e2
  cases e2
  exact ⟨a, e1, k1, k2⟩
theorem DiskIs.none (w : World) : DiskIs w none0 (.agg #[.slice none 0 0, .slice none 0 0]) := ⟨_, _, rfl, Row.nil _ _, Row.nil _ _⟩
theorem DiskIs.alloc {w : World} {d : Dev} {v : Value} (h : DiskIs w d v) (o : Obj) : DiskIs (w.alloc o) d v := h.below ((Below.refl _ w).alloc (Nat.le_refl _) o)
theorem DiskIs.drew {w : World} {d : Dev} {v : Value} (h : DiskIs w d v) : DiskIs w.drew d v := h.below (Below.refl _ w).drew
end Go.Proofs.YtmfbkelhegdmpaaGreatDoor
/- Small laws: append of a whole slice to a slice that the call itself has made. -/
namespace Go.Proofs.YtmfbkelhegdmpaaGreatDoor
open Go.RowKit Disk11

theorem run_append_none {P : Program} (w : World) (t e ty : TypeId) (i : TypeInfo) (ht : P.underlying t = some (.slice e)) (hi : P.info? e = some i) (b : Option Addr) (n c c' : Nat) (h : n ≤ c) :
    (Builtin.append_ #[t, t] ty #[.slice b n c, .slice none 0 c']).run P w = .ok (.slice b n c) w := by
  cases b <;> simp [Builtin.append_, run_underlying ht, sizeOf, typeInfo, hi, Builtin.lenOf, Builtin.firstCells, h, storeCells, Result.andThen]

/-- 'append(S{}, x...)' as one operation: a copy of the row. -/
theorem wp_app_row {P : Program} {o : Oper} {a : Act} {W : World} {K : Act → World → Prop} {Q : Exit → Act → World → Prop} {s x : Operand} {ty sl : TypeId} {size bytes G n c : Nat} {z : Value} {ad : Option Addr} {xs : List Value}
    (hinfo : (P.info? ty).map (fun i => (i.zero, i.size, i.bytes)) = some (some z, size, bytes)) (hzs : z.cells.size = size) (hsz : 0 < size) (hu : P.underlying sl = some (.slice ty))
    (ho : o.op = .call { callee := .builtin .append, args := #[s, x], argTypes := #[sl, sl] })
    (base : Nat) (hs : a.eval s = .slice (some ⟨G, 0, none⟩) 0 0) (hmade : W.heap[G]? = some (.cells #[] ty (0, 0))) (hG : base ≤ G) (hx : a.eval x = .slice ad n c) (hrow : Row W size (.slice ad n c) n xs) (h1 : ∀ u ∈ xs, u.oneCell' = true)
    (hn : n ≤ maxLen) (hbytes : n * bytes ≤ 140737488355328) (hbase : base ≤ W.heap.size)
    (h : ∀ ad' c' w', w'.ownsRow base ty size (.slice ad' n c') n xs → Below base W w' → W.grownBy w' (some G) → K (a.put o.dst (.slice ad' n c')) w') :
    o.wp P a W K Q := by
  obtain ⟨i0, hi, hz0, hz1, hz2⟩ := info_parts hinfo
  have hown : W.ownsRow base ty size (.slice (some ⟨G, 0, none⟩) 0 0) 0 [] := ⟨by simp, .inr ⟨G, 0, #[], rfl, hG, hmade, Nat.le_refl _, Nat.zero_le _, by simp, by simp⟩⟩
  cases ad with
  | none =>
    have h0 : xs = [] := by
      cases xs with
      | nil => rfl
      | cons x l =>
        obtain ⟨a, ha, _⟩ := hrow.cell (j := 0) rfl
        cases ha
    subst h0
    have hn0 : n = 0 := by
      have := hrow.1
      rw [List.length_nil] at this
      rcases Nat.mul_eq_zero.1 this.symm with h | h
      · exact h
      · omega
    subst hn0
    have hr := run_append_none (P := P) W sl ty o.type i0 hu hi (some ⟨G, 0, none⟩) 0 0 c (Nat.le_refl _)
    unfold Oper.wp execOp
    simp only [ho, resolve, invoke, builtin, Sem.run_bind, Sem.run_pure, Result.andThen_ok, List.map_toArray, List.map_cons, List.map_nil, hs, hx, hr]
    exact h _ _ _ hown (Below.refl _ _) ⟨rfl, rfl, rfl, Nat.le_refl _, fun _ _ _ => rfl⟩
  | some ad =>
    refine wp_append_own _ s x sl ho base ty i0 z size bytes hu hi hz0 hz1 hz2 hzs hsz _ _ _ hs hown ad n c xs hx (by rw [hrow.1]) (fun j u hj => by
      obtain ⟨a', e, hc⟩ := hrow.cell hj
      cases e; exact hc) h1 (by omega) (by rw [Nat.zero_add]; exact hbytes) hbase ?_
    intro v' w' hown' hgrow _
    rw [Nat.zero_add, List.nil_append] at hown'
    obtain ⟨ad', c', rfl⟩ := own_slice hown'
    exact h _ _ _ hown' ((Below.refl base W).grown hgrow hbase (fun k hk => by cases hk; exact hG)) hgrow
/-- The same as one step of a region that draws its order. -/
theorem step_app_row {P : Program} {ops : Array Oper} {o : Oper} {a : Act} {W : World} {K : Act → World → Prop} {Q : Exit → Act → World → Prop} {E : Prop} {s x : Operand} {ty sl : TypeId} {size bytes G n c : Nat} {z : Value} {ad : Option Addr} {xs : List Value} (hgd : o.guard = none)
    (hinfo : (P.info? ty).map (fun i => (i.zero, i.size, i.bytes)) = some (some z, size, bytes)) (hzs : z.cells.size = size) (hsz : 0 < size) (hu : P.underlying sl = some (.slice ty))
    (ho : o.op = .call { callee := .builtin .append, args := #[s, x], argTypes := #[sl, sl] })
    (base : Nat) (hs : a.eval s = .slice (some ⟨G, 0, none⟩) 0 0) (hmade : W.heap[G]? = some (.cells #[] ty (0, 0))) (hG : base ≤ G) (hx : a.eval x = .slice ad n c) (hrow : Row W size (.slice ad n c) n xs) (h1 : ∀ u ∈ xs, u.oneCell' = true)
    (hn : n ≤ maxLen) (hbytes : n * bytes ≤ 140737488355328) (hbase : base ≤ W.heap.size)
    (h : ∀ ad' c' w', w'.ownsRow base ty size (.slice ad' n c') n xs → Below base W w' → W.grownBy w' (some G) → K (a.put o.dst (.slice ad' n c')) w') :
    if Region.wanted o (yielded ops a.tmps) = true then Oper.wp P o a W K Q else E := by
  have hw : Region.wanted o (yielded ops a.tmps) = true := by simp [Region.wanted, hgd]
  rw [if_pos hw]
  exact wp_app_row hinfo hzs hsz hu ho base hs hmade hG hx hrow h1 hn hbytes hbase h
end Go.Proofs.YtmfbkelhegdmpaaGreatDoor
/- Small laws: arguments that are slices and devices, opened; arguments that a call left alone, read again. -/
namespace Go.Proofs.YtmfbkelhegdmpaaGreatDoor
open Go.RowKit Go.ChangeShapes Go.WideShapes Go.Deep Disk11

section
variable {H : Type} {enc : TypeId × Value → H} {P : Program}
theorem stays_same {w w' : World} (hb : Below w.heap.size w w') (p : MemPlace) (h : p.block < w.heap.size) : w.sameAt w' p := by
  cases p with
  | cell b off => exact hb.cell (p := ⟨b, off, none⟩) h
  | map b => exact hb.block b h
/-- What was read ahead of a call that writes in new memory alone is read the same behind it. -/
theorem trodAll_again (hl : laidOutB P = true) (hm : mapsRowed P = true) (hz : ∀ t e, t < P.types.size → P.underlying t = some (.slice e) → 0 < P.cellsOf e) {w w' : World} (hb : Below w.heap.size w w') :
    ∀ {ts : List TypeId} {vs : List Value} {ds : List (DataW H)} {ps : List MemPlace}, (∀ t ∈ ts, t < P.types.size) → DataW.TrodAll enc P w 0 (fun _ => true) true ts vs ds ps → DataW.TrodAll enc P w' 0 (fun b => decide (b < w.heap.size)) true ts vs ds ps
  | [], [], [], _, _, h => h
  | t :: ts, v :: vs, d :: ds, ps, hT, ⟨p, q, ⟨n, h1⟩, h2, e⟩ => by
    refine ⟨p, q, ⟨n, ?_⟩, trodAll_again hl hm hz hb (fun t ht => hT t (List.mem_cons.2 (Or.inr ht))) h2, e⟩
    have hlt := DataW.trod_lt n _ _ _ h1
    exact DataW.trod_stays (kids_rows hl hm) (fun {t e} ht hu => hz t e ht hu) (fun h => by cases h) (hT t (List.mem_cons.2 (Or.inl rfl))) h1 (fun p hp => stays_same hb p (hlt p hp)) (fun p hp => by simpa using hlt p hp)

theorem rows_of {w : World} {ad : Option Addr} {size : Nat} {α : Type} (f : α → List Value) (good : α → Prop) (hf : ∀ x, (f x).length = size) : ∀ (n : Nat),
    (∀ i, i < n → ∃ x, good x ∧ ∀ j v, (f x)[j]? = some v → ∃ a, ad = some a ∧ w.cell? (a.add (i * size + j)) = some v) →
    ∃ l : List α, l.length = n ∧ (l.flatMap f).length = n * size ∧ (∀ x ∈ l, good x) ∧ ∀ j v, (l.flatMap f)[j]? = some v → ∃ a, ad = some a ∧ w.cell? (a.add j) = some v
  | 0, _ => ⟨[], rfl, by simp, by simp, fun j v h => by simp at h⟩
  | n + 1, h => by
    obtain ⟨l, h1, h2, h3, h4⟩ := rows_of f good hf n (fun i hi => h i (by omega))
    obtain ⟨x, hg, hx⟩ := h n (by omega)
    refine ⟨l ++ [x], by simp [h1], ?_, ?_, fun j v hj => ?_⟩
    · rw [List.flatMap_append, List.length_append, h2, Nat.succ_mul]; simp [hf]
    · intro y hy
      rcases List.mem_append.1 hy with k | k
      · exact h3 y k
      · rw [List.mem_singleton.1 k]; exact hg
    · rw [List.flatMap_append] at hj
      by_cases hlt : j < n * size
      · rw [List.getElem?_append_left (by omega)] at hj
        exact h4 j v hj
      · rw [List.getElem?_append_right (by omega), h2] at hj
        simp only [List.flatMap_cons, List.flatMap_nil, List.append_nil] at hj
        obtain ⟨a, ha, hc⟩ := hx _ v hj
        exact ⟨a, ha, by rw [show n * size + (j - n * size) = j by omega] at hc; exact hc⟩
theorem row_strings {w : World} {base fuel : Nat} {spare : Nat → Bool} {held : Bool} {v : Value} {x : DataW H × List MemPlace} {t e : TypeId} (ht : P.underlying t = some (.slice e)) (he : P.underlying e = some .string) (hc : P.cellsOf e = 1)
    (h : DataW.trod enc P w base spare held fuel t [v] = some x) : ∃ l : List (List UInt8), Row w 1 v l.length (strVals l) := by
  rcases open_slice1 ht hc h with ⟨h0, _⟩ | ⟨a, len, cap, m, n, V, D, Pl, hv, _, hl, _, hm, _, hV⟩
  · cases h0
    exact ⟨[], Row.nil _ _⟩
  · cases hv
    obtain ⟨l, h1, h2, _, h4⟩ := rows_of (w := w) (ad := some a) (size := 1) (fun b : List UInt8 => [Value.string ⟨b.toArray⟩]) (fun _ => True) (fun _ => rfl) len (fun i hi => by
      obtain ⟨hcell, htr⟩ := hV i (by rw [hm]; split <;> omega)
      obtain ⟨s, hs, _, _⟩ := DataW.trod_string he htr
      have hs := (List.cons.inj hs).1
      refine ⟨s.data.toList, trivial, fun j v hj => ⟨a, rfl, ?_⟩⟩
      match j, hj with
      | 0, hj => simp at hj; subst hj; rw [Nat.mul_one, Nat.add_zero, hcell, hs]
      | j + 1, hj => simp at hj)
    subst h1
    have e : l.flatMap (fun b : List UInt8 => [Value.string ⟨b.toArray⟩]) = strVals l := by unfold strVals; exact (List.map_eq_flatMap ..).symm
    rw [e] at h2 h4
    exact ⟨l, h2, _, _, rfl, hl, h4⟩
theorem row_ints {w : World} {base fuel : Nat} {spare : Nat → Bool} {held : Bool} {v : Value} {x : DataW H × List MemPlace} {t e : TypeId} (ht : P.underlying t = some (.slice e)) (he : P.underlying e = some (.int .i64)) (hc : P.cellsOf e = 1)
    (h : DataW.trod enc P w base spare held fuel t [v] = some x) : ∃ l : List Int, l.length ≤ maxLen ∧ (∀ n ∈ l, (Lit.int .i64 n).wf = true) ∧ Row w 1 v l.length (l.map fun n => .int .i64 n) := by
  rcases open_slice1 ht hc h with ⟨h0, _⟩ | ⟨a, len, cap, m, n, V, D, Pl, hv, _, hl, hml, hm, _, hV⟩
  · cases h0
    exact ⟨[], by unfold maxLen; simp, by simp, Row.nil _ _⟩
  · cases hv
    obtain ⟨l, h1, h2, h3, h4⟩ := rows_of (w := w) (ad := some a) (size := 1) (fun n : Int => [Value.int .i64 n]) (fun n => (Lit.int .i64 n).wf = true) (fun _ => rfl) len (fun i hi => by
      obtain ⟨hcell, htr⟩ := hV i (by rw [hm]; split <;> omega)
      obtain ⟨s, hs, _, hw⟩ := DataW.trod_int he htr
      have hs := (List.cons.inj hs).1
      refine ⟨s, hw, fun j v hj => ⟨a, rfl, ?_⟩⟩
      match j, hj with
      | 0, hj => simp at hj; subst hj; rw [Nat.mul_one, Nat.add_zero, hcell, hs]
      | j + 1, hj => simp at hj)
    subst h1
    have e : l.flatMap (fun n : Int => [Value.int .i64 n]) = l.map fun n => .int .i64 n := (List.map_eq_flatMap ..).symm
    rw [e] at h2 h4
    exact ⟨l, by omega, h3, h2, _, _, rfl, hl, h4⟩
theorem row_writes {w : World} {base fuel : Nat} {spare : Nat → Bool} {held : Bool} {v : Value} {x : DataW H × List MemPlace} {t e : TypeId} {f0 f1 : Field} (ht : P.underlying t = some (.slice e)) (he : P.underlying e = some (.struct #[f0, f1]))
    (hone : oneCellFields P #[f0, f1] = true) (hc : P.cellsOf e = 2) (h0 : P.underlying f0.type = some (.int .i64)) (h1 : P.underlying f1.type = some .string)
    (h : DataW.trod enc P w base spare held fuel t [v] = some x) : ∃ l : List Wr, Row w 2 v l.length (wrVals l) := by
  rcases open_slice ht h with ⟨hn, _⟩ | ⟨a, len, cap, m, n, D, Pl, hv, _, hl, _, hm, _, hV⟩
  · cases hn
    exact ⟨[], Row.nil _ _⟩
  · cases hv
    obtain ⟨l, k1, k2, _, k4⟩ := rows_of (w := w) (ad := some a) (size := 2) (fun x : Wr => [Value.int .i64 x.1, Value.string ⟨x.2.toArray⟩]) (fun _ => True) (fun _ => rfl) len (fun i hi => by
      obtain ⟨cs, hcell, htr⟩ := hV i (by rw [hm]; split <;> omega)
      rw [hc] at hcell
      obtain ⟨_, hlen, hat⟩ := World.cells?_some hcell
      obtain ⟨y0, y1, n', _, _, t0, t1⟩ := trod_struct2 he htr
      obtain ⟨o0, q0⟩ := hone_of hone 0 f0 rfl
      obtain ⟨o1, q1⟩ := hone_of hone 1 f1 rfl
      match cs, hlen with
      | [c0, c1], _ =>
        simp only [o0, q0, o1, q1, List.drop_zero, List.drop_succ_cons, List.take_succ_cons, List.take_zero] at t0 t1
        obtain ⟨z0, hz0, _, _⟩ := DataW.trod_int h0 t0
        obtain ⟨z1, hz1, _, _⟩ := DataW.trod_string h1 t1
        cases hz0
        cases hz1
        refine ⟨(z0, z1.data.toList), trivial, fun j v hj => ⟨a, rfl, ?_⟩⟩
        match j, hj with
        | 0, hj =>
          simp at hj; subst hj
          have := hat 0 (by omega)
          rw [Go.Deep.add_add] at this
          rw [this]; rfl
        | 1, hj =>
          simp at hj; subst hj
          have := hat 1 (by omega)
          rw [Go.Deep.add_add] at this
          rw [this]; rfl
        | j + 2, hj => simp at hj)
    subst k1
    exact ⟨l, k2, _, _, rfl, hl, k4⟩
end
section
variable {H : Type} {enc : TypeId × Value → H}
set_option maxRecDepth 100000 in
theorem open_disk {w : World} {base : Nat} {spare : Nat → Bool} {held : Bool} {r : Reach} {b0 : Nat} {v : Value} {d : DataW H} {p : List MemPlace} (hv : Value.okWide Tryz.prog w r b0 29 v)
    (h : DataW.Trod enc Tryz.prog w base spare held 29 v d p) : ∃ x : Dev, DiskIs w x v := by
  obtain ⟨v0, v1, y0, y1, n, rfl, _, _, h0, h1⟩ := Go.Joins.open_agg2 Tryz.underlying29 (by kernel_rfl) (by kernel_rfl) hv h
  obtain ⟨l0, r0⟩ := row_strings Tryz.underlying26 Tryz.underlying9 (by kernel_rfl) h0
  obtain ⟨l1, r1⟩ := row_writes Tryz.underlying27 Tryz.underlying49 (by kernel_rfl) (by kernel_rfl) Tryz.underlying3 Tryz.underlying9 h1
  exact ⟨(l0, l1), _, _, rfl, r0, r1⟩
end
end Go.Proofs.YtmfbkelhegdmpaaGreatDoor
/- The walk of Mod of the statements' kit: a number in its bounds. -/
namespace Go.Proofs.YtmfbkelhegdmpaaGreatDoor
open Go.RowKit

def I64 (a : Int) : Prop := -9223372036854775808 ≤ a ∧ a ≤ 9223372036854775807
theorem tmod_pos (a n : Int) (ha : 0 ≤ a) (hn : 1 ≤ n) : ∃ m : Nat, Int.tmod a n = (m : Int) ∧ (m : Int) < n := by
  rw [Int.tmod_eq_emod_of_nonneg ha]
  exact ⟨(a % n).toNat, by have := Int.emod_nonneg a (show n ≠ 0 by omega); omega, by have := Int.emod_nonneg a (show n ≠ 0 by omega); have := Int.emod_lt_of_pos a (show 0 < n by omega); omega⟩
theorem tmod_neg (a n : Int) (ha : a < 0) (hn : 1 ≤ n) : ∃ m : Nat, Int.tmod a n = -(m : Int) ∧ (m : Int) < n := by
  obtain ⟨m, h1, h2⟩ := tmod_pos (-a) n (by omega) hn
  exact ⟨m, by rw [show a = -(-a) by omega, Int.neg_tmod, h1], h2⟩
set_option maxHeartbeats 1000000 in
theorem Mod_some (a n : Int) (w : World) (_ : I64 a) (h1 : 1 ≤ n) (h2 : n ≤ 4611686018427387904) :
    Calls Tryz.prog 77 #[.int .i64 a, .int .i64 n] w fun e w' => ∃ m : Nat, (m : Int) < n ∧ e = .returned (.int .i64 m) ∧ w = w' := by
  have hn1 : decide (n < 1) = false := by simp; omega
  have hn0 : (n == 0) = false := by simp; omega
  have hnn : ¬ n = 0 := by omega
  by_cases h : 0 ≤ a
  · obtain ⟨m, hm, hl⟩ := tmod_pos a n h h1
    have hw : IntKind.i64.wrap (m : Int) = (m : Int) := by rw [IntKind.wrap_i64]; omega
    have hm' : decide ((m : Int) < 0) = false := by simp
    go_enter Tryz.func77, Tryz.ntmps77
    go_wp2
    go_ret
    exact ⟨m, hl, rfl, rfl⟩
  · obtain ⟨m, hm, hl⟩ := tmod_neg a n (by omega) h1
    go_enter Tryz.func77, Tryz.ntmps77
    go_wp2
    · go_ret
      exact ⟨(-(m : Int) + n).toNat, by omega, by rw [Int.toNat_of_nonneg (by omega)]; rfl, rfl⟩
    · go_ret
      exact ⟨0, by omega, by rw [show -(m : Int) = ((0 : Nat) : Int) by omega]; rfl, rfl⟩

end Go.Proofs.YtmfbkelhegdmpaaGreatDoor
/- Plain facts on devices: what is written is read; synchronising; crashes; parts of texts. -/
namespace Go.Proofs.YtmfbkelhegdmpaaGreatDoor
open Go.RowKit Disk11

theorem good_chk {d : Dev} (h : Disk11.Good d) : chk d = (0, 0) := (chk_good d).2 h
theorem readD_all {d : Dev} (h : Disk11.Good d) : readD d 0 ((d.1.length : Int) * 64) = (readAll d, 0) := by
  unfold readD
  rw [good_chk h, if_neg (by simp)]
  have hi : inside (Disk11.size d) 0 ((d.1.length : Int) * 64) = true := by rw [inside_iff]; unfold Disk11.size; omega
  rw [hi, if_neg (by simp), Int.toNat_zero, List.drop_zero, List.take_of_length_le (by rw [readAll_length h]; omega)]
theorem writeD_ok {d : Dev} (h : Disk11.Good d) (h2 : d.2.length < 1000) (a : Nat) (x : List UInt8) (hx : x ≠ []) (ha : a + x.length ≤ 64 * d.1.length) : writeD d a x = ((d.1, d.2 ++ [((a : Int), x)]), 0) := by
  unfold writeD
  rw [good_chk h, if_neg (by simp)]
  have hi : inside (Disk11.size d) a x.length = true := by rw [inside_iff]; unfold Disk11.size; omega
  have he : x.isEmpty = false := by cases x <;> simp_all
  rw [hi, he, if_neg (by simp), if_neg (by omega)]
theorem good_write {d : Dev} (h : Disk11.Good d) (h2 : d.2.length < 1000) (a : Nat) (x : List UInt8) (hx : x ≠ []) (ha : a + x.length ≤ 64 * d.1.length) : Disk11.Good (d.1, d.2 ++ [((a : Int), x)]) := by
  obtain ⟨g1, g2, g3, g4, g5⟩ := h
  refine ⟨g1, g2, g3, by simp; omega, fun w hw => ?_⟩
  rcases List.mem_append.1 hw with k | k
  · exact g5 w k
  · rw [List.mem_singleton.1 k]
    refine ⟨hx, Int.natCast_nonneg _, ?_⟩
    show (a : Int) + x.length ≤ ((64 * d.1.length : Nat) : Int)
    omega
theorem readAll_write (d : Dev) (a : Nat) (x : List UInt8) : readAll (d.1, d.2 ++ [((a : Int), x)]) = layF (readAll d) a x := by
  unfold readAll
  dsimp only
  rw [List.foldl_append]; rfl
theorem layF_mid {b x : List UInt8} {a : Nat} (h : a + x.length ≤ b.length) : ((layF b a x).drop a).take x.length = x := by
  unfold layF
  have e : (b.take a).length = a := by rw [List.length_take]; omega
  rw [List.append_assoc, List.drop_append_of_le_length (by omega), List.drop_of_length_le (by omega), List.nil_append, List.take_left' rfl]
theorem layF_low {b x : List UInt8} {a : Nat} (h : a + x.length ≤ b.length) : (layF b a x).take a = b.take a := by
  unfold layF
  rw [List.append_assoc, List.take_left' (by simp; omega)]
theorem layF_high {b x : List UInt8} {a : Nat} (h : a + x.length ≤ b.length) : (layF b a x).drop (a + x.length) = b.drop (a + x.length) := by
  unfold layF
  rw [List.drop_left' (by simp; omega)]
theorem sub_mid (y : List UInt8) (i j : Nat) (h1 : i ≤ j) (h2 : j ≤ y.length) (W : World) : (Instr.slice 9 (.string ⟨y.toArray⟩) (some (.int .i64 (i : Int))) (some (.int .i64 (j : Int))) none).run Tryz.prog W = .ok (.string ⟨((y.drop i).take (j - i)).toArray⟩) W := by
  have hs : (⟨y.toArray⟩ : ByteArray).size = y.length := rfl
  rw [run_slice_string W _ _ _ _ _ _ Tryz.underlying9 (by omega) (by omega) (by rw [hs]; omega), ByteArray.extract_mk, Int.toNat_natCast, Int.toNat_natCast]
theorem sub_low (y : List UInt8) (j : Nat) (h2 : j ≤ y.length) (W : World) : (Instr.slice 9 (.string ⟨y.toArray⟩) none (some (.int .i64 (j : Int))) none).run Tryz.prog W = .ok (.string ⟨(y.take j).toArray⟩) W := by
  have hs : (⟨y.toArray⟩ : ByteArray).size = y.length := rfl
  rw [run_slice_string_to_if W _ _ _ _ Tryz.underlying9, if_pos (by rw [hs]; omega), ByteArray.extract_mk, Int.toNat_natCast]; simp
theorem sub_high (y : List UInt8) (i : Nat) (h2 : i ≤ y.length) (W : World) : (Instr.slice 9 (.string ⟨y.toArray⟩) (some (.int .i64 (i : Int))) none none).run Tryz.prog W = .ok (.string ⟨(y.drop i).toArray⟩) W := by
  have hs : (⟨y.toArray⟩ : ByteArray).size = y.length := rfl
  rw [run_slice_string_from_if W _ _ _ _ Tryz.underlying9, if_pos (by rw [hs]; omega), ByteArray.extract_mk, Int.toNat_natCast, hs, List.take_of_length_le (by simp)]

theorem syncD_ok {d : Dev} (h : Disk11.Good d) : syncD d = ((chunk (readAll d), []), 0) := by unfold syncD; rw [good_chk h, if_neg (by simp)]
theorem chunk_len {b : List UInt8} {n : Nat} (h : b.length = 64 * n) : (chunk b).length = n := by rw [chunk_length, h]; omega
theorem good_chunk {b : List UInt8} {n : Nat} (h : b.length = 64 * n) (h1 : 1 ≤ n) (h2 : n ≤ 4096) : Disk11.Good (chunk b, []) :=
  ⟨by show 1 ≤ (chunk b).length; rw [chunk_len h]; exact h1, by show (chunk b).length ≤ _; rw [chunk_len h]; exact h2, chunk_whole b, Nat.zero_le _, fun w hw => by simp at hw⟩
theorem readAll_chunk {b : List UInt8} {n : Nat} (h : b.length = 64 * n) : readAll (chunk b, []) = b := flatten_chunk h
theorem crashD_ok {d : Dev} (h : Disk11.Good d) (k t : Nat) (hk : k ≤ d.2.length) (ht : t ≤ (nextD d k).2.length) : crashD d k t = ((chunk (layF (readK d k) (nextD d k).1.toNat ((nextD d k).2.take t)), []), 0) := by
  unfold crashD
  rw [good_chk h, if_neg (by simp), if_neg (by omega), if_neg (by rw [Int.toNat_natCast]; omega), Int.toNat_natCast, Int.toNat_natCast]
theorem crash_zero {d : Dev} (h : Disk11.Good d) (k : Nat) (hk : k ≤ d.2.length) : crashD d k 0 = ((chunk (readK d k), []), 0) := by
  have := crashD_ok h k 0 hk (Nat.zero_le _)
  rw [List.take_zero, layF_nil] at this
  exact this
theorem crash_full {d : Dev} (h : Disk11.Good d) (k : Nat) (hk : k < d.2.length) : crashD d k d.2[k].2.length = ((chunk (readK d (k + 1)), []), 0) := by
  have e : nextD d k = d.2[k] := by unfold nextD; rw [List.getElem?_eq_getElem hk]; rfl
  rw [crashD_ok h k _ (by omega) (by rw [e]; exact Nat.le_refl _), e, List.take_length, readK_succ hk]
theorem crash_end {d : Dev} (h : Disk11.Good d) : crashD d d.2.length 0 = ((chunk (readAll d), []), 0) := by
  rw [crash_zero h _ (Nat.le_refl _), readK_all]
theorem crash_none {d : Dev} (h : Disk11.Good d) : crashD d 0 0 = ((d.1, []), 0) := by
  have := crash_zero h 0 (Nat.zero_le _)
  have e : readK d 0 = d.1.flatten := by unfold readK; rfl
  rw [e, chunk_flatten h.2.2.1] at this
  exact this
theorem dirty_none {b : List UInt8} {n : Nat} (h : b.length = 64 * n) (h1 : 1 ≤ n) (h2 : n ≤ 4096) : dirtyD (chunk b, []) = ([], 0) := by
  unfold dirtyD
  rw [good_chk (good_chunk h h1 h2), if_neg (by simp)]
  unfold dirtyL
  rw [readAll_chunk h]
  simp

end Go.Proofs.YtmfbkelhegdmpaaGreatDoor
