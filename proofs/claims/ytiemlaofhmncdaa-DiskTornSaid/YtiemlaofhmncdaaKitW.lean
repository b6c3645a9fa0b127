/- Small laws: append of a whole slice to a slice that the call itself has made. -/
import Derived.Test.YtiemlaofhmncdaaKitV
import Derived.Lib.SliceRun
import Derived.Lib.BufferMore
namespace Go.Proofs.Ytiemlaofhmncdaa
open Go.RowKit Disk11

theorem run_append_none {P : Program} (w : World) (t e ty : TypeId) (i : TypeInfo) (ht : P.underlying t = some (.slice e)) (hi : P.info? e = some i) (b : Option Addr) (n c c' : Nat) (h : n ≤ c) :
    (Builtin.append_ #[t, t] ty #[.slice b n c, .slice none 0 c']).run P w = .ok (.slice b n c) w := by
  cases b <;> simp [Builtin.append_, run_underlying ht, sizeOf, typeInfo, hi, Builtin.lenOf, Builtin.firstCells, h, storeCells, Result.andThen]

/-- 'append(S{}, x...)' as one operation: a copy of the row. -/
theorem wp_app_row {P : Program} {o : Oper} {a : Act} {W : World} {K : Act → World → Prop} {Q : Exit → Act → World → Prop} {s x : Operand} {ty sl : TypeId} {size bytes G n c : Nat} {z : Value} {ad : Option Addr} {xs : List Value}
    (hinfo : (P.info? ty).map (fun i => (i.zero, i.size, i.bytes)) = some (some z, size, bytes)) (hzs : z.cells.size = size) (hsz : 0 < size) (hu : P.underlying sl = some (.slice ty))
    (ho : o.op = .call { callee := .builtin .append, args := #[s, x], argTypes := #[sl, sl] })
    (base : Nat) (hs : a.eval s = .slice (some ⟨G, 0, none⟩) 0 0) (hmade : W.heap[G]? = some (.cells #[] ty (0, 0))) (hG : base ≤ G) (hx : a.eval x = .slice ad n c) (hrow : Row W size (.slice ad n c) n xs) (h1 : ∀ u ∈ xs, u.oneCell' = true)
    (hn : n ≤ maxLen) (hbytes : n * bytes ≤ 140737488355328) (hbase : base ≤ W.heap.size)
    (h : ∀ ad' c' w', w'.ownsRow base ty size (.slice ad' n c') n xs → Below base W w' → W.grownBy w' (some G) → K (a.put o.dst (.slice ad' n c')) w') :
    o.wp P a W K Q := by
  obtain ⟨i0, hi, hz0, hz1, hz2⟩ := info_parts hinfo
  have hown : W.ownsRow base ty size (.slice (some ⟨G, 0, none⟩) 0 0) 0 [] := ⟨by simp, .inr ⟨G, 0, #[], rfl, hG, hmade, Nat.le_refl _, Nat.zero_le _, by simp, by simp⟩⟩
  cases ad with
  | none =>
    have h0 : xs = [] := by
      cases xs with
      | nil => rfl
      | cons x l =>
        obtain ⟨a, ha, _⟩ := hrow.cell (j := 0) rfl
        cases ha
    subst h0
    have hn0 : n = 0 := by
      have := hrow.1
      rw [List.length_nil] at this
      rcases Nat.mul_eq_zero.1 this.symm with h | h
      · exact h
      · omega
    subst hn0
    have hr := run_append_none (P := P) W sl ty o.type i0 hu hi (some ⟨G, 0, none⟩) 0 0 c (Nat.le_refl _)
    unfold Oper.wp execOp
    simp only [ho, resolve, invoke, builtin, Sem.run_bind, Sem.run_pure, Result.andThen_ok, List.map_toArray, List.map_cons, List.map_nil, hs, hx, hr]
    exact h _ _ _ hown (Below.refl _ _) ⟨rfl, rfl, rfl, Nat.le_refl _, fun _ _ _ => rfl⟩
  | some ad =>
    refine wp_append_own _ s x sl ho base ty i0 z size bytes hu hi hz0 hz1 hz2 hzs hsz _ _ _ hs hown ad n c xs hx (by rw [hrow.1]) (fun j u hj => by
      obtain ⟨a', e, hc⟩ := hrow.cell hj
      cases e; exact hc) h1 (by omega) (by rw [Nat.zero_add]; exact hbytes) hbase ?_
    intro v' w' hown' hgrow _
    rw [Nat.zero_add, List.nil_append] at hown'
    obtain ⟨ad', c', rfl⟩ := own_slice hown'
    exact h _ _ _ hown' ((Below.refl base W).grown hgrow hbase (fun k hk => by cases hk; exact hG)) hgrow
/-- The same as one step of a region that draws its order. -/
theorem step_app_row {P : Program} {ops : Array Oper} {o : Oper} {a : Act} {W : World} {K : Act → World → Prop} {Q : Exit → Act → World → Prop} {E : Prop} {s x : Operand} {ty sl : TypeId} {size bytes G n c : Nat} {z : Value} {ad : Option Addr} {xs : List Value} (hgd : o.guard = none)
    (hinfo : (P.info? ty).map (fun i => (i.zero, i.size, i.bytes)) = some (some z, size, bytes)) (hzs : z.cells.size = size) (hsz : 0 < size) (hu : P.underlying sl = some (.slice ty))
    (ho : o.op = .call { callee := .builtin .append, args := #[s, x], argTypes := #[sl, sl] })
    (base : Nat) (hs : a.eval s = .slice (some ⟨G, 0, none⟩) 0 0) (hmade : W.heap[G]? = some (.cells #[] ty (0, 0))) (hG : base ≤ G) (hx : a.eval x = .slice ad n c) (hrow : Row W size (.slice ad n c) n xs) (h1 : ∀ u ∈ xs, u.oneCell' = true)
    (hn : n ≤ maxLen) (hbytes : n * bytes ≤ 140737488355328) (hbase : base ≤ W.heap.size)
    (h : ∀ ad' c' w', w'.ownsRow base ty size (.slice ad' n c') n xs → Below base W w' → W.grownBy w' (some G) → K (a.put o.dst (.slice ad' n c')) w') :
    if Region.wanted o (yielded ops a.tmps) = true then Oper.wp P o a W K Q else E := by
  have hw : Region.wanted o (yielded ops a.tmps) = true := by simp [Region.wanted, hgd]
  rw [if_pos hw]
  exact wp_app_row hinfo hzs hsz hu ho base hs hmade hG hx hrow h1 hn hbytes hbase h
end Go.Proofs.Ytiemlaofhmncdaa
