/- Small laws: append of texts to a slice that the call itself has made; a copy of a row of texts. -/
import Derived.Test.YtmfbkelhegdmpaaGreatDoorKitAll
namespace Go.Proofs.YtmfbkelhegdmpaaGreatDoor
open Go.RowKit Disk11

theorem run_append_none' {P : Program} (w : World) (t e ty : TypeId) (i : TypeInfo) (ht : P.underlying t = some (.slice e)) (hi : P.info? e = some i) (b : Option Addr) (n c c' : Nat) (h : n ≤ c) :
    (Builtin.append_ #[t, t] ty #[.slice b n c, .slice none 0 c']).run P w = .ok (.slice b n c) w := by
  cases b <;> simp [Builtin.append_, run_underlying ht, sizeOf, typeInfo, hi, Builtin.lenOf, Builtin.firstCells, h, storeCells, Result.andThen]
theorem strVals_one' (l : List (List UInt8)) : ∀ u ∈ strVals l, u.oneCell' = true := by
  intro u hu
  unfold strVals at hu
  rw [List.mem_map] at hu
  obtain ⟨b, _, rfl⟩ := hu
  rfl
theorem wp_app_txts {o : Oper} {a : Act} {W : World} {K : Act → World → Prop} {Q : Exit → Act → World → Prop} {s x : Operand} {n c : Nat} {v : Value} {ad : Option Addr} {l l2 : List (List UInt8)}
    (ho : o.op = .call { callee := .builtin .append, args := #[s, x], argTypes := #[26, 26] })
    (base : Nat) (hs : a.eval s = v) (hown : Txt W base v l) (hx : a.eval x = .slice ad n c) (hrow : Row W 1 (.slice ad n c) n (strVals l2))
    (hn : l.length + n ≤ 4398046511104) (hbase : base ≤ W.heap.size)
    (h : ∀ v' w', Txt w' base v' (l ++ l2) → Below base W w' → W.grownBy w' v.ownBlock → K (a.put o.dst v') w') :
    o.wp Tryz.prog a W K Q := by
  obtain ⟨i0, hi, hz0, hz1, hz2⟩ := info_parts infoStr
  have hl2 : l2.length = n := by have := hrow.1; rw [strVals_length] at this; omega
  cases ad with
  | none =>
    have h0 : l2 = [] := by
      cases l2 with
      | nil => rfl
      | cons y l2 =>
        obtain ⟨a, ha, _⟩ := hrow.cell (j := 0) rfl
        cases ha
    subst h0
    obtain rfl : n = 0 := hl2.symm
    obtain ⟨b, m, cc, hv, hmc⟩ : ∃ b m cc, v = .slice b m cc ∧ m ≤ cc := by
      rcases hown.2 with ⟨rfl, _⟩ | ⟨g, cap, cur, rfl, _, _, hh, _⟩
      · exact ⟨_, _, _, rfl, Nat.le_refl _⟩
      · exact ⟨_, _, _, rfl, hh⟩
    have hr := run_append_none' (P := Tryz.prog) W 26 9 o.type i0 Tryz.underlying26 hi b m cc c hmc
    subst hv
    unfold Oper.wp execOp
    simp only [ho, resolve, invoke, builtin, Sem.run_bind, Sem.run_pure, Result.andThen_ok, List.map_toArray, List.map_cons, List.map_nil, hs, hx, hr]
    exact h _ _ (by rw [List.append_nil]; exact hown) (Below.refl _ _) ⟨rfl, rfl, rfl, Nat.le_refl _, fun _ _ _ => rfl⟩
  | some ad =>
    refine wp_append_own _ s x 26 ho base 9 i0 (.string ⟨#[]⟩) 1 16 Tryz.underlying26 hi hz0 hz1 hz2 rfl (by decide) _ _ _ hs hown ad n c (strVals l2) hx (by rw [hrow.1]) (fun j u hj => by
      obtain ⟨a', e, hc⟩ := hrow.cell hj
      cases e; exact hc) (strVals_one' l2) (by unfold maxLen; omega) (by omega) hbase ?_
    intro v' w' hown' hgrow _
    rw [← strVals_append, ← hl2, ← List.length_append] at hown'
    exact h _ _ hown' ((Below.refl base W).grown hgrow hbase (fun k hk => (World.ownsRow.lt hown k hk).1)) hgrow
theorem step_app_txts {ops : Array Oper} {o : Oper} {a : Act} {W : World} {K : Act → World → Prop} {Q : Exit → Act → World → Prop} {E : Prop} {s x : Operand} {n c : Nat} {v : Value} {ad : Option Addr} {l l2 : List (List UInt8)} (hgd : o.guard = none)
    (ho : o.op = .call { callee := .builtin .append, args := #[s, x], argTypes := #[26, 26] })
    (base : Nat) (hs : a.eval s = v) (hown : Txt W base v l) (hx : a.eval x = .slice ad n c) (hrow : Row W 1 (.slice ad n c) n (strVals l2))
    (hn : l.length + n ≤ 4398046511104) (hbase : base ≤ W.heap.size)
    (h : ∀ v' w', Txt w' base v' (l ++ l2) → Below base W w' → W.grownBy w' v.ownBlock → K (a.put o.dst v') w') :
    if Region.wanted o (yielded ops a.tmps) = true then Oper.wp Tryz.prog o a W K Q else E := by
  have hw : Region.wanted o (yielded ops a.tmps) = true := by simp [Region.wanted, hgd]
  rw [if_pos hw]
  exact wp_app_txts ho base hs hown hx hrow hn hbase h
theorem OwnTexts_any (l : List (List UInt8)) (v : Value) (w : World) (h : Row w 1 v l.length (strVals l)) (hl : l.length ≤ 4096) :
    Calls Tryz.prog 34 #[v] w fun e w' => ∃ ad c, e = .returned (.slice ad l.length c) ∧ Txt w' w.heap.size (.slice ad l.length c) l ∧ Below w.heap.size w w' := by
  obtain ⟨al, cl, rfl, _⟩ := h.slice
  have a0 := Lib.hid (Go.Joins.below_alloc1 w (.cells #[] 9))
  have n0 := Lib.hid (World.alloc_heap_new w (.cells #[] 9))
  have h0 := Lib.hid (h.below a0.out)
  clear h
  go_enter Tryz.func34, Tryz.ntmps34
  go_wp2_with (at_builtin; refine wpList_plain rfl ?_; intro K hK; refine wp_app_row infoStr rfl (by decide) Tryz.underlying26 rfl w.heap.size rfl n0.out (Nat.le_refl _) rfl h0.out (strVals_one' _) (by unfold maxLen; omega) (by omega) (by simp) ?_; intro ad' c' w' o1 b1 g1; refine hK _ _ ?_)
  go_wp2
  go_ret
  exact ⟨_, _, rfl, o1, a0.out.trans b1⟩
end Go.Proofs.YtmfbkelhegdmpaaGreatDoor
