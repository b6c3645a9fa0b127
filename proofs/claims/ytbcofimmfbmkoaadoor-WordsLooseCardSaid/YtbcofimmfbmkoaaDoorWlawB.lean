/- The walks of the law's own functions of chapter 3: own, light. -/
import Derived.Test.YtbcofimmfbmkoaaDoorWlawA
import Derived.Lib.SliceRun
import Derived.Lib.BufferMore
namespace Go.Proofs.YtbcofimmfbmkoaaDoor
open Go.RowKit Go.Shelf Words3

theorem run_append_none {P : Program} (w : World) (t e ty : TypeId) (i : TypeInfo) (ht : P.underlying t = some (.slice e)) (hi : P.info? e = some i) (b : Option Addr) (n c c' : Nat) (h : n ≤ c) :
    (Builtin.append_ #[t, t] ty #[.slice b n c, .slice none 0 c']).run P w = .ok (.slice b n c) w := by
  cases b <;> simp [Builtin.append_, run_underlying ht, sizeOf, typeInfo, hi, Builtin.lenOf, Builtin.firstCells, h, storeCells, Result.andThen]
/-- 'append(S{}, x...)' as one operation: a copy of the row. -/
theorem wp_app_row {P : Program} {o : Oper} {a : Act} {W : World} {K : Act → World → Prop} {Q : Exit → Act → World → Prop} {s x : Operand} {ty sl : TypeId} {size bytes G n c : Nat} {z : Value} {ad : Option Addr} {xs : List Value}
    (hinfo : (P.info? ty).map (fun i => (i.zero, i.size, i.bytes)) = some (some z, size, bytes)) (hzs : z.cells.size = size) (hsz : 0 < size) (hu : P.underlying sl = some (.slice ty))
    (ho : o.op = .call { callee := .builtin .append, args := #[s, x], argTypes := #[sl, sl] })
    (base : Nat) (hs : a.eval s = .slice (some ⟨G, 0, none⟩) 0 0) (hmade : W.heap[G]? = some (.cells #[] ty (0, 0))) (hG : base ≤ G) (hx : a.eval x = .slice ad n c) (hrow : Row W size (.slice ad n c) n xs) (h1 : ∀ u ∈ xs, u.oneCell' = true)
    (hn : n ≤ maxLen) (hbytes : n * bytes ≤ 140737488355328) (hbase : base ≤ W.heap.size)
    (h : ∀ ad' c' w', w'.ownsRow base ty size (.slice ad' n c') n xs → Below base W w' → W.grownBy w' (some G) → K (a.put o.dst (.slice ad' n c')) w') :
    o.wp P a W K Q := by
  obtain ⟨i0, hi, hz0, hz1, hz2⟩ := info_parts hinfo
  have hown : W.ownsRow base ty size (.slice (some ⟨G, 0, none⟩) 0 0) 0 [] := ⟨by simp, .inr ⟨G, 0, #[], rfl, hG, hmade, Nat.le_refl _, Nat.zero_le _, by simp, by simp⟩⟩
  cases ad with
  | none =>
    have h0 : xs = [] := by
      cases xs with
      | nil => rfl
      | cons x l =>
        obtain ⟨a, ha, _⟩ := hrow.cell (j := 0) rfl
        cases ha
    subst h0
    have hn0 : n = 0 := by
      have := hrow.1
      rw [List.length_nil] at this
      rcases Nat.mul_eq_zero.1 this.symm with h | h
      · exact h
      · omega
    subst hn0
    have hr := run_append_none (P := P) W sl ty o.type i0 hu hi (some ⟨G, 0, none⟩) 0 0 c (Nat.le_refl _)
    unfold Oper.wp execOp
    simp only [ho, resolve, invoke, builtin, Sem.run_bind, Sem.run_pure, Result.andThen_ok, List.map_toArray, List.map_cons, List.map_nil, hs, hx, hr]
    exact h _ _ _ hown (Below.refl _ _) ⟨rfl, rfl, rfl, Nat.le_refl _, fun _ _ _ => rfl⟩
  | some ad =>
    refine wp_append_own _ s x sl ho base ty i0 z size bytes hu hi hz0 hz1 hz2 hzs hsz _ _ _ hs hown ad n c xs hx (by rw [hrow.1]) (fun j u hj => by
      obtain ⟨a', e, hc⟩ := hrow.cell hj
      cases e; exact hc) h1 (by omega) (by rw [Nat.zero_add]; exact hbytes) hbase ?_
    intro v' w' hown' hgrow _
    rw [Nat.zero_add, List.nil_append] at hown'
    obtain ⟨ad', c', rfl⟩ := own_slice hown'
    exact h _ _ _ hown' ((Below.refl base W).grown hgrow hbase (fun k hk => by cases hk; exact hG)) hgrow
theorem step_of {P : Program} {ops : Array Oper} {o : Oper} {a : Act} {W : World} {K : Act → World → Prop} {Q : Exit → Act → World → Prop} {E : Prop} (hgd : o.guard = none) (h : o.wp P a W K Q) : if Region.wanted o (yielded ops a.tmps) = true then Oper.wp P o a W K Q else E := by
  have hw : Region.wanted o (yielded ops a.tmps) = true := by simp [Region.wanted, hgd]
  rw [if_pos hw]; exact h
theorem wcells_one (ws : List Wd) : ∀ u ∈ wcells ws, u.oneCell' = true := by
  intro u hu
  unfold wcells at hu
  rw [List.mem_flatMap] at hu
  obtain ⟨x, _, h⟩ := hu
  exact wcell_one x u h
theorem Rs.step {V V3 : World} {B m cap : Nat} {o : Value} {acc : List Rw} {r : Rw} {ad : Option Addr} (h : Rs V B o acc) (hB : B ≤ V.heap.size) (hb : Below V.heap.size V V3) (hW : V3.ownsRow V.heap.size 46 3 (.slice ad m cap) m (wcells r.words)) (hm : m = r.words.length) :
    ∃ vs : List Value, (V3.alloc (.cells #[.int .i64 (r.at_ : Int), .slice ad m cap] 39)).ownsRow B 39 2 o acc.length (rcells vs acc) ∧ B ≤ (V3.alloc (.cells #[.int .i64 (r.at_ : Int), .slice ad m cap] 39)).heap.size ∧
      ∀ v' w', w'.ownsRow B 39 2 v' (acc.length + 1) (rcells vs acc ++ [.int .i64 (r.at_ : Int), .slice ad m cap]) → (V3.alloc (.cells #[.int .i64 (r.at_ : Int), .slice ad m cap] 39)).grownBy w' o.ownBlock →
        Rs w' B v' (acc ++ [r]) ∧ Below B V w' := by
  subst hm
  have hV3 := hb.size
  obtain ⟨vs, e1, e2, e3⟩ := h.below hb
  have hg := World.grownBy_alloc V3 (.cells #[.int .i64 (r.at_ : Int), .slice ad r.words.length cap] 39) none
  have e4 := World.ownsRow.alloc e2 (.cells #[.int .i64 (r.at_ : Int), .slice ad r.words.length cap] 39)
  have hs : B ≤ (V3.alloc (.cells #[.int .i64 (r.at_ : Int), .slice ad r.words.length cap] 39)).heap.size := Nat.le_trans (Nat.le_trans hB hV3) hg.size
  have hW' : Ws V3 V.heap.size (.slice ad r.words.length cap) r.words := hW
  refine ⟨vs, e4, hs, fun v' w' k1 k2 => ⟨Rs.snoc (r := r) e1 e4 (fun p hp => (e3 p hp).off hg (fun k e => by cases e)) ((hW'.lower hB).off hg (fun k e => by cases e)) k2 k1, ?_⟩⟩
  exact ((hb.mono hB).alloc (Nat.le_trans hB hV3) _).grown k2 hs (fun k hk => (World.ownsRow.lt e4 k hk).1)

set_option maxHeartbeats 10000000 in
set_option maxRecDepth 100000 in
theorem own_any (W : World) (v : Value) (rs : List Rw) (hv : RowsAt W v rs) (hn : rs.length ≤ 100000) (hm : ∀ r ∈ rs, r.words.length ≤ 100000) :
    Calls Tryd.prog 24 #[v] W fun e w' => ∃ v', e = .returned v' ∧ Rs w' W.heap.size v' rs ∧ Below W.heap.size W w' := by
  obtain ⟨ad, c, rfl, hc⟩ := hv.slice
  have HV := Lib.hid hv
  clear hv
  go_enter Tryd.func24, Tryd.ntmps24
  go_wp2_with fail
  go_loopw [3, 4] (fun o i wr => ∃ k : Nat, i = .int .i64 k ∧ k ≤ rs.length ∧ Hid (Rs wr W.heap.size o (rs.take k) ∧ Below W.heap.size W wr)) (fun _ i _ => rs.length - (intOf i).toNat)
  case atStart => exact ⟨0, rfl, Nat.zero_le _, Lib.hid ⟨Rs.nil _ _, Below.refl _ _⟩⟩
  case round =>
    obtain ⟨i, rfl, hi, hI⟩ := hrel
    obtain ⟨V, rfl⟩ : ∃ V, V = wr := ⟨wr, rfl⟩
    have d0 : (0 : Int) ≤ (i : Int) := by omega
    rcases Nat.lt_or_ge i rs.length with hil | hig
    · have d1 : (i : Int) < rs.length := by omega
      have hml := hm rs[i] (List.getElem_mem hil)
      obtain ⟨a, u, rfl, x0, x1, hw⟩ := HV.out.row (List.getElem?_eq_getElem hil)
      have hsn : rs.take (i + 1) = rs.take i ++ [rs[i]] := List.take_succ_eq_append_getElem hil
      obtain ⟨r, hr⟩ : ∃ r, r = rs[i] := ⟨_, rfl⟩
      rw [← hr] at x0 hw hml hsn
      clear hr
      have HS := Lib.hid hsn
      clear hsn
      obtain ⟨ad2, c2, rfl, _⟩ := Row.slice hw
      have hR := Lib.hid (And.intro hI.out.1 (And.intro hI.out.2.size hI.out.2))
      have HX := Lib.hid (And.intro x0 x1)
      have hw := hw.below hI.out.2
      have x0 := cell_below hI.out.2 x0
      have x1 := cell_below hI.out.2 x1
      have hlt : (rs.take i).length = i := by rw [List.length_take]; omega
      generalize rs.take i = acc at *
      subst hlt
      have m1 := World.new_ne _ _ x0
      have m2 := World.new_ne _ _ x1
      have hA1 := Lib.hid (World.alloc_heap_new V (.cells #[] 46))
      have hA2 := Lib.hid (Go.Joins.below_alloc1 V (.cells #[] 46)).drew
      have hsA : (V.alloc (.cells #[] 46)).heap.size = V.heap.size + 1 := World.size_alloc ..
      have HW := Lib.hid hw
      obtain ⟨i0, hi0, hz0, hz1, hz2⟩ := info_parts infoRow
      clear hw
      go_wp2_with fail
      go_region_held3 (fun Y => Y.cell? (a.add (acc.length * 2)) = some (.int .i64 (r.at_ : Int)) ∧ Y.cell? { block := (a.add (acc.length * 2)).block, off := (a.add (acc.length * 2)).off + 1 } = some (.slice ad2 r.words.length c2))
        (first | exact ⟨x0, x1⟩ | exact ⟨y0, y1⟩ | exact ⟨z0, z1⟩ | go_keep)
        (first
          | (refine step_of rfl (wp_app_row infoWord rfl (by decide) Tryd.underlying37 rfl V.heap.size rfl hA1.out (Nat.le_refl _) rfl (Row.below HW.out hA2.out) (wcells_one _) (by unfold maxLen; omega) (by omega) hA2.out.size ?_)
             intro ad1 cp1 w1 o1 b1 g1
             have b2 := hA2.out.trans b1
             have y0 := cell_below b2 x0
             have y1 := cell_below b2 x1
             have n1 := World.new_ne _ _ y0
             have n2 := World.new_ne _ _ y1
             obtain ⟨vs, e3, b3, hnx⟩ := Rs.step hR.out.1 hR.out.2.1 b2 o1 rfl)
          | (refine step_of rfl (wp_append_own _ _ _ 23 rfl W.heap.size 39 i0 (.agg #[.int .i64 0, .slice none 0 0]) 2 32 Tryd.underlying23 hi0 hz0 hz1 hz2 rfl (by decide) _ _ _ rfl e3 ⟨w1.heap.size, 0, none⟩ 1 1 [.int .i64 (r.at_ : Int), .slice ad1 r.words.length cp1] rfl rfl (new_cellsN w1 [.int .i64 (r.at_ : Int), .slice ad1 r.words.length cp1] 39 rfl) (by intro u hu; simp only [List.mem_cons, List.not_mem_nil, or_false] at hu; rcases hu with rfl | rfl <;> rfl) (by unfold maxLen; omega) (by omega) b3 ?_)
             intro v' w' hown hgr _
             obtain ⟨q1, q2⟩ := hnx v' w' hown hgr
             have q3 := hR.out.2.2.trans q2
             have z0 := cell_below q3 HX.out.1
             have z1 := cell_below q3 HX.out.2))
      have HQ := Lib.hid (And.intro q1 q3)
      clear z0 z1 q1 q2 q3 hown hgr y0 y1 n1 n2
      go_wp2_with fail
      exact ⟨⟨acc.length + 1, by go_num, hil, Lib.hid (by rw [HS.out]; exact HQ.out)⟩, by simp only [intOf]; omega⟩
    · obtain rfl : i = rs.length := by omega
      have d1 := lt_f (a := (rs.length : Int)) (b := rs.length) (by omega)
      have hR := Lib.hid hI.out
      rw [List.take_length] at hR
      go_wp2_with fail
      go_ret
      exact ⟨_, rfl, hR.out.1, hR.out.2⟩
end Go.Proofs.YtbcofimmfbmkoaaDoor
