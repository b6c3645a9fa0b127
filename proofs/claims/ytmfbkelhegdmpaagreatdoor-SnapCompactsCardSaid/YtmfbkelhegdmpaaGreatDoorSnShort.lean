/- Rows of the call's own that hold short texts alone, beyond their length too: devices, whose blocks have 64 bytes, do not lie in them. -/
import Derived.Test.YtmfbkelhegdmpaaGreatDoorSnapAK
import Derived.Test.YtmfbkelhegdmpaaGreatDoorKitAll
namespace Go.Proofs.YtmfbkelhegdmpaaGreatDoor
open Go.RowKit Disk11

def AllShort (cur : List Value) : Prop := ∀ u ∈ cur, ∃ x : List UInt8, u = .string ⟨x.toArray⟩ ∧ x.length ≤ 12
def ShortB (w : World) (v : Value) : Prop := ∀ g, v.ownBlock = some g → ∃ cur, w.heap[g]? = some (.cells cur 9 (0, 0)) ∧ AllShort cur.toList
theorem ShortB.nil (w : World) : ShortB w (.slice none 0 0) := fun g h => by simp [Value.ownBlock] at h
theorem ShortB.same {w w' : World} {v : Value} (h : ShortB w v) (hs : ∀ g, v.ownBlock = some g → g < w.heap.size → w'.heap[g]? = w.heap[g]?) : ShortB w' v := fun g hg => by
  obtain ⟨cur, h1, h2⟩ := h g hg
  exact ⟨cur, (hs g hg (Array.getElem?_eq_some_iff.1 h1).1).trans h1, h2⟩
theorem ShortB.below {w w' : World} {v : Value} (h : ShortB w v) (hb : Below w.heap.size w w') : ShortB w' v := h.same fun g _ hl => hb.block g hl
theorem ShortB.set {w : World} {v u : Value} {b j : Nat} (h : ShortB w v) (hb : v.ownBlock = none ∨ v.ownBlock ≠ some b) : ShortB (w.setCell ⟨b, j, none⟩ u) v :=
  h.same fun g hg hl => (grown_cell w b j u).block g hl (fun e => by cases e; rcases hb with h | h; rw [h] at hg; cases hg; exact h hg)
theorem ShortB.apart {w w' : World} {v rv : Value} {size n : Nat} {xs : List Value} (h : ShortB w v) (hg : w.grownBy w' v.ownBlock) (hr : Row w size rv n xs)
    (hx : xs = [] ∨ ∃ (k : Nat) (y : Value), xs[k]? = some y ∧ ∀ x : List UInt8, x.length ≤ 12 → y ≠ .string ⟨x.toArray⟩) : Row w' size rv n xs := by
  obtain ⟨h1, ad, c, h2, h3, h4⟩ := hr
  refine ⟨h1, ad, c, h2, h3, fun i x hi => ?_⟩
  obtain ⟨a, ha, hc⟩ := h4 i x hi
  refine ⟨a, ha, ?_⟩
  rcases hx with rfl | ⟨k, y, hk, hy⟩
  · simp at hi
  obtain ⟨a', ha', hc'⟩ := h4 k _ hk
  rw [ha] at ha'
  cases ha'
  have hne : some a.block ≠ v.ownBlock := fun e => by
    obtain ⟨cur, q1, q2⟩ := h _ e.symm
    unfold World.cell? at hc'
    rw [add_block, q1] at hc'
    dsimp only at hc'
    split at hc'
    · cases hc'
    · obtain ⟨x, e1, e2⟩ := q2 y (Array.mem_toList_iff.2 (Array.mem_of_getElem? hc'))
      exact hy x e2 e1
  exact hg.cell hc (by rw [add_block]; exact hne)
theorem disk_short {w w' : World} {v dv : Value} {D : Dev} (h : ShortB w v) (hg : w.grownBy w' v.ownBlock) (hd : DiskIs w D dv) (hgood : Disk11.Good D) : DiskIs w' D dv := by
  obtain ⟨vb, vc, rfl, h2, h3⟩ := hd
  refine ⟨vb, vc, rfl, h.apart hg h2 ?_, h.apart hg h3 ?_⟩
  · obtain ⟨k1, _, k2, _⟩ := hgood
    refine .inr ⟨0, _, strVals_at D.1 0 k1, fun x hx e => ?_⟩
    have e1 := congrArg List.length (congrArg (fun s : ByteArray => s.data.toList) (Value.string.inj e))
    have e2 := k2 _ (List.getElem_mem (l := D.1) (n := 0) k1)
    dsimp only at e1
    rw [e2] at e1
    omega
  · cases hD : D.2 with
    | nil => exact .inl rfl
    | cons a l => exact .inr ⟨0, .int .i64 a.1, rfl, fun x _ e => by cases e⟩
theorem zero_short (n : Nat) : AllShort (Builtin.zeroCells (Value.cells (.string ⟨#[]⟩)) n).toList := fun u hu => by
  unfold Builtin.zeroCells at hu
  rw [Array.toList_map, List.mem_map] at hu
  obtain ⟨i, _, rfl⟩ := hu
  refine ⟨[], ?_, Nat.zero_le _⟩
  show (#[Value.string ⟨#[]⟩] : Array Value)[i % 1]! = _
  rw [Nat.mod_one]; rfl
theorem AllShort.app {a b : List Value} (ha : AllShort a) (hb : AllShort b) : AllShort (a ++ b) := fun u hu => by
  rcases List.mem_append.1 hu with h | h
  · exact ha u h
  · exact hb u h
theorem one_short {x : List UInt8} (hx : x.length ≤ 12) : AllShort [.string ⟨x.toArray⟩] := fun _ hu => ⟨x, List.mem_singleton.1 hu, hx⟩
theorem vals_short {l : List (List UInt8)} (h : ∀ x ∈ l, x.length ≤ 12) : AllShort (strVals l) := fun u hu => by
  unfold strVals at hu
  obtain ⟨x, hx, rfl⟩ := List.mem_map.1 hu
  exact ⟨x, rfl, h x hx⟩
theorem run_app_short (W : World) (ty : TypeId) (base : Nat) (v : Value) (l : List (List UInt8)) (x : List UInt8) (hown : Txt W base v l) (hsh : ShortB W v) (hl : ∀ x ∈ l, x.length ≤ 12) (hx : x.length ≤ 12) (a : Addr) (hcell : W.cell? a = some (.string ⟨x.toArray⟩))
    (hlen : l.length < 4398046511104) (hbase : base ≤ W.heap.size) :
    ∃ v' w', (Builtin.append_ #[26, 26] ty #[v, .slice (some a) 1 1]).run Tryz.prog W = .ok v' w' ∧ Txt w' base v' (l ++ [x]) ∧ W.grownBy w' v.ownBlock ∧ ShortB w' v' := by
  obtain ⟨i0, hi, hz0, hz1, hz2⟩ := info_parts infoStr
  have hnews : ∀ (j : Nat) (u : Value), [Value.string ⟨x.toArray⟩][j]? = some u → W.cell? (a.add j) = some u := by
    intro j u hj
    match j, hj with
    | 0, hj => simp at hj; subst hj; simpa [Addr.add] using hcell
    | j + 1, hj => simp at hj
  have h1 : ∀ u ∈ [Value.string ⟨x.toArray⟩], u.oneCell' = true := by intro u hu; rw [List.mem_singleton.1 hu]; rfl
  obtain ⟨v', w', hr, h2, h3, _⟩ := run_append_own (P := Tryz.prog) W base 26 ty 9 i0 (.string ⟨#[]⟩) 1 16 Tryz.underlying26 hi hz0 hz1 hz2 rfl (by decide) v l.length (strVals l) hown a 1 1 [.string ⟨x.toArray⟩] rfl hnews h1 (by unfold maxLen; omega) (by omega) hbase
  refine ⟨v', w', hr, ?_, h3, ?_⟩
  · unfold Txt
    rw [strVals_append, List.length_append]
    exact h2
  · rcases hown.2 with ⟨rfl, hn⟩ | ⟨g, cap, cur, rfl, hbg, hg, hnc, hcm, hcs, htake⟩
    · have hr' := run_append_nil (P := Tryz.prog) W 26 ty 9 i0 (.string ⟨#[]⟩) Tryz.underlying26 hi hz0 a 1 1 [.string ⟨x.toArray⟩] (by rw [hz1]; rfl) hnews (by decide) (by decide) (by rw [hz2]; decide)
      rw [hr'] at hr
      cases hr
      intro g hg
      obtain rfl : W.heap.size = g := by simpa [Value.ownBlock] using hg
      refine ⟨_, heap_alloc_new W.drew _, ?_⟩
      rw [Array.toList_append]
      exact (one_short hx).app (zero_short _)
    · by_cases hroom : l.length + 1 ≤ cap
      · have hr' := run_append_room (P := Tryz.prog) W 26 ty 9 i0 Tryz.underlying26 hi g l.length cap cur hg a 1 1 [.string ⟨x.toArray⟩] (by rw [hz1]; rfl) hnews h1 hroom (by rw [hz1, hcs]; simp; omega)
        rw [hr'] at hr
        cases hr
        intro g' hg'
        obtain rfl : g = g' := by simpa [Value.ownBlock] using hg'
        obtain ⟨cur', q1, q2⟩ := hsh g rfl
        rw [hg] at q1
        cases q1
        refine ⟨_, setRow_heap W g cur _ 9 _ hg, ?_⟩
        refine AllShort.app (AllShort.app (fun u hu => q2 u (List.mem_of_mem_take hu)) (one_short hx)) (fun u hu => q2 u (List.mem_of_mem_drop hu))
      · have holds : ∀ j u, (strVals l)[j]? = some u → W.cell? ((⟨g, 0, none⟩ : Addr).add j) = some u := World.ownsRow.cells hown (g := g) rfl
        have hr' := run_append_grow (P := Tryz.prog) W 26 ty 9 i0 (.string ⟨#[]⟩) Tryz.underlying26 hi hz0 ⟨g, 0, none⟩ l.length cap (strVals l) (by rw [hz1, strVals_length, Nat.mul_one]) holds a 1 1 [.string ⟨x.toArray⟩] (by rw [hz1]; rfl) hnews (by omega) (by omega) (by rw [hz2]; exact growslice_fits (by omega) (by omega))
        rw [hr'] at hr
        cases hr
        intro g' hg'
        obtain rfl : W.heap.size = g' := by simpa [Value.ownBlock] using hg'
        refine ⟨_, heap_alloc_new W.drew _, ?_⟩
        simp only [Array.toList_append]
        exact ((vals_short hl).app (one_short hx)).app (zero_short _)
/-- 'b = append(b, x)', x one short text. -/
theorem app_short {ops : Array Oper} {rest : List Oper} {o : Oper} {a : Act} {Q : Exit → Act → World → Prop} {w : World} {s x : Operand} {v : Value} {l : List (List UInt8)} {n : List UInt8} (hgd : o.guard = none)
    (ho : o.op = .call { callee := .builtin .append, args := #[s, x], argTypes := #[26, 26] })
    (base : Nat) (hs : a.eval s = v) (hown : Txt w base v l) (hsh : ShortB w v) (hl : ∀ x ∈ l, x.length ≤ 12) (hn : n.length ≤ 12) (hx : a.eval x = .slice (some ⟨w.heap.size, 0, none⟩) 1 1)
    (hlen : l.length < 4398046511104) (hbase : base ≤ w.heap.size)
    (h : ∀ g cap w', Txt w' base (.slice (some ⟨g, 0, none⟩) (l.length + 1) cap) (l ++ [n]) → ShortB w' (.slice (some ⟨g, 0, none⟩) (l.length + 1) cap) → Below base w w' → base ≤ g → w.grownBy w' v.ownBlock → wpList Tryz.prog ops Q rest (a.put o.dst (.slice (some ⟨g, 0, none⟩) (l.length + 1) cap)) w') :
    wpList Tryz.prog ops Q (o :: rest) a (w.alloc (.cells #[.string ⟨n.toArray⟩] 9)) := by
  have ha : Below w.heap.size w (w.alloc (.cells #[.string ⟨n.toArray⟩] 9)) := Go.Joins.below_alloc1 w _
  obtain ⟨v', w', hr, hbuf, hgrow, hsh'⟩ := run_app_short (w.alloc (.cells #[.string ⟨n.toArray⟩] 9)) o.type base v l n (World.ownsRow.alloc hown _) (hsh.below ha) hl hn ⟨w.heap.size, 0, none⟩ (cell1 (World.alloc_heap_new w _)) hlen (by simp; omega)
  refine wpList_plain hgd fun _ hK => ?_
  unfold Oper.wp execOp
  simp only [ho, resolve, invoke, builtin, Sem.run_bind, Sem.run_pure, Result.andThen_ok, List.map_toArray, List.map_cons, List.map_nil, hs, hx, hr]
  have hb : Below base w w' := ((Below.refl base w).alloc hbase _).grown hgrow (by simp; omega) (fun k hk => (World.ownsRow.lt hown k hk).1)
  have hg2 : w.grownBy w' v.ownBlock := by
    refine ⟨hgrow.os, hgrow.tape, hgrow.output, Nat.le_trans (by simp) hgrow.size, fun k hk hne => ?_⟩
    rw [hgrow.block k (by simp; omega) hne]
    exact Below.heap_alloc w _ k hk
  rcases hbuf.form with ⟨_, hn⟩ | ⟨g, cap, rfl, hg⟩
  · simp at hn
  · rw [List.length_append] at hbuf hsh' ⊢
    exact hK _ _ (h g cap w' hbuf hsh' hb hg hg2)
end Go.Proofs.YtmfbkelhegdmpaaGreatDoor
