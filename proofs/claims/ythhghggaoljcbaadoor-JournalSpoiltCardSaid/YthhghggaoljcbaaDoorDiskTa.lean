/- Appending a text to a slice of texts; the blocks of bytes step by step. -/
import Derived.Test.YthhghggaoljcbaaDoorDiskS
import Derived.Deep.RegionLaw
import Derived.Lib.QuoteBits
namespace Go.Proofs.YthhghggaoljcbaaDoor
open Go.RowKit Disk11

theorem chunk_take (l : List UInt8) (k : Nat) (hk : k < l.length / 64) : (chunk l).take (k + 1) = (chunk l).take k ++ [(l.drop (64 * k)).take 64] := by
  have hk' : k < (chunk l).length := by rw [chunk_length]; exact hk
  rw [List.take_succ_eq_append_getElem hk']
  congr 2
  have := chunk_get l k hk
  rw [List.getElem?_eq_getElem hk'] at this
  exact Option.some.inj this

set_option maxRecDepth 100000 in
/-- 'append(rows, x)', x one text, as one step of a region that draws its order. -/
theorem step_app_str {ops : Array Oper} {o : Oper} {a : Act} {W : World} {K : Act → World → Prop} {Q : Exit → Act → World → Prop} {E : Prop} {s x : Operand} {v : Value} {l : List (List UInt8)} {n : List UInt8} {g0 : Nat} (hgd : o.guard = none)
    (ho : o.op = .call { callee := .builtin .append, args := #[s, x], argTypes := #[22, 22] })
    (base : Nat) (hs : a.eval s = v) (hown : Txt W base v l) (hx : a.eval x = .slice (some ⟨g0, 0, none⟩) 1 1) (hcell : W.cell? ⟨g0, 0, none⟩ = some (.string ⟨n.toArray⟩))
    (hlen : l.length < 4398046511104) (hbase : base ≤ W.heap.size)
    (h : ∀ g cap w', Txt w' base (.slice (some ⟨g, 0, none⟩) (l.length + 1) cap) (l ++ [n]) → Below base W w' → base ≤ g → K (a.put o.dst (.slice (some ⟨g, 0, none⟩) (l.length + 1) cap)) w') :
    if Region.wanted o (yielded ops a.tmps) = true then Oper.wp Tryd.prog o a W K Q else E := by
  have hw : Region.wanted o (yielded ops a.tmps) = true := by simp [Region.wanted, hgd]
  rw [if_pos hw]
  obtain ⟨i0, hi, hz0, hz1, hz2⟩ := info_parts infoStr
  have hnews : ∀ j u, [Value.string ⟨n.toArray⟩][j]? = some u → W.cell? ((⟨g0, 0, none⟩ : Addr).add j) = some u := by
    intro j u hj
    match j, hj with
    | 0, hj => simp at hj; subst hj; rw [addr_add]; exact hcell
  refine wp_append_own _ s x 22 ho base 9 i0 (.string ⟨#[]⟩) 1 16 Tryd.underlying22 hi hz0 hz1 hz2 rfl (by decide) v _ _ hs hown ⟨g0, 0, none⟩ 1 1 [.string ⟨n.toArray⟩] hx rfl
    hnews (by intro u hu; simp at hu; subst hu; rfl) (by unfold maxLen; omega) (by omega) hbase ?_
  intro v' w' hown' hgrow _
  have e : strVals l ++ [.string ⟨n.toArray⟩] = strVals (l ++ [n]) := by rw [strVals_append]; rfl
  rw [e] at hown'
  have hbuf : Txt w' base v' (l ++ [n]) := by unfold Txt; rw [List.length_append]; exact hown'
  have hb : Below base W w' := (Below.refl base W).grown hgrow hbase (fun k hk => (World.ownsRow.lt hown k hk).1)
  rcases hbuf.form with ⟨_, hn⟩ | ⟨g, cap, rfl, hg⟩
  · simp at hn
  · rw [List.length_append] at hbuf ⊢
    exact h g cap w' hbuf hb hg
end Go.Proofs.YthhghggaoljcbaaDoor
