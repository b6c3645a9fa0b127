/- Chapter 3: the walks of At and made. -/
import Derived.Test.YtbcofimmfbmkoaaDoorWlawE
import Derived.Test.YtbcofimmfbmkoaaDoorKitM
import Derived.IntWalk
namespace Go.Proofs.YtbcofimmfbmkoaaDoor
open Go.RowKit Go.Shelf Words3

set_option maxHeartbeats 1000000 in
theorem At_some (l : List Int) (v : Value) (i : Nat) (w : World) (h : Row w 1 v l.length (l.map fun n => .int .i64 n)) (hw : ∀ n ∈ l, (Lit.int .i64 n).wf = true) (hi : i ≤ 4611686018427387904) :
    Calls Tryd.prog 33 #[v, .int .i64 i] w fun e w' => ∃ x : Int, I64 x ∧ e = .returned (.int .i64 x) ∧ w = w' := by
  obtain ⟨ad, c, rfl, hc⟩ := h.slice
  by_cases hlt : i < l.length
  · have hlt' : decide ((l.length : Int) ≤ i) = false := by simp; omega
    have q : (l.map fun n => Value.int .i64 n)[i]? = some (.int .i64 l[i]) := by rw [List.getElem?_map, List.getElem?_eq_getElem hlt]; rfl
    obtain ⟨a, rfl, hc⟩ := h.cell q
    have hwf := hw _ (List.getElem_mem hlt)
    generalize l[i] = x at hc hwf
    have hX := Lib.hid (I64_of hwf)
    clear hwf q hw h
    go_enter Tryd.func33, Tryd.ntmps33
    go_wp2
    go_ret
    exact ⟨x, hX.out, rfl, rfl⟩
  · have hlt' : decide ((l.length : Int) ≤ i) = true := by simp; omega
    clear h hw
    go_enter Tryd.func33, Tryd.ntmps33
    go_wp2
    go_ret
    exact ⟨0, by unfold I64; omega, rfl, rfl⟩

theorem wrap64_nat (a : Int) (n : Nat) (e : a = (n : Int)) (h : n < 4294967296) : wrap64 a = (n : Int) := by
  subst e
  unfold wrap64
  omega
theorem tmod_nat (n k z : Nat) (h : z = n % k) : (n : Int).tmod (k : Int) = (z : Int) := by
  subst h
  rw [Int.tmod_eq_emod_of_nonneg (by omega)]; rfl
theorem text_lit (z : Nat) (h : z < 8) : ([Value.string ⟨#[97]⟩, .string ⟨#[]⟩, .string ⟨#[98, 32, 99]⟩, .string ⟨#[35]⟩, .string ⟨#[120, 61, 121]⟩, .string ⟨#[34]⟩, .string ⟨#[49, 50]⟩, .string ⟨#[10]⟩] : List Value)[z]'h = .string ⟨(madeText z).toArray⟩ := by
  match z, h with
  | 0, _ => rfl
  | 1, _ => rfl
  | 2, _ => rfl
  | 3, _ => rfl
  | 4, _ => rfl
  | 5, _ => rfl
  | 6, _ => rfl
  | 7, _ => rfl
  | z + 8, h => exact absurd h (by omega)
theorem key_lit (z : Nat) (h : z < 3) : ([Value.string ⟨#[107]⟩, .string ⟨#[105, 100]⟩, .string ⟨#[110, 45, 49]⟩] : List Value)[z]'h = .string ⟨(madeKey z).toArray⟩ := by
  match z, h with
  | 0, _ => rfl
  | 1, _ => rfl
  | 2, _ => rfl
  | z + 3, h => exact absurd h (by omega)

theorem made_step {V W5 : World} {j : Nat} {u : Value} {ws : List Wd} (x : Wd) (hj : ws.length = j) (hj2 : j ≤ 1000) (hru : W5.heap[V.heap.size]? = some (.cells #[.int .i64 0, u] 39 (0, 0))) (hW : Ws W5 (V.heap.size + 1) u ws) (hb : Below V.heap.size V W5) (hs : V.heap.size + 1 ≤ W5.heap.size) :
    (W5.alloc (.cells #[.int .i64 x.at_, .string ⟨x.key.toArray⟩, .string ⟨x.text.toArray⟩] 46)).ownsRow (V.heap.size + 1) 46 3 u j (wcells ws) ∧ V.heap.size + 1 ≤ (W5.alloc (.cells #[.int .i64 x.at_, .string ⟨x.key.toArray⟩, .string ⟨x.text.toArray⟩] 46)).heap.size ∧
      ∀ v' w', w'.ownsRow (V.heap.size + 1) 46 3 v' (j + 1) (wcells ws ++ [.int .i64 x.at_, .string ⟨x.key.toArray⟩, .string ⟨x.text.toArray⟩]) → (W5.alloc (.cells #[.int .i64 x.at_, .string ⟨x.key.toArray⟩, .string ⟨x.text.toArray⟩] 46)).grownBy w' u.ownBlock →
        w'.heap[V.heap.size]? = some (.cells #[.int .i64 0, u] 39 (0, 0)) ∧
          (∃ u', (w'.setCell ⟨V.heap.size, 1, none⟩ v').heap[V.heap.size]? = some (.cells #[.int .i64 0, u'] 39 (0, 0)) ∧ Ws (w'.setCell ⟨V.heap.size, 1, none⟩ v') (V.heap.size + 1) u' (ws ++ [x]) ∧ Below V.heap.size V (w'.setCell ⟨V.heap.size, 1, none⟩ v') ∧ V.heap.size + 1 ≤ (w'.setCell ⟨V.heap.size, 1, none⟩ v').heap.size) := by
  subst hj
  have e4 := World.ownsRow.alloc hW (.cells #[.int .i64 x.at_, .string ⟨x.key.toArray⟩, .string ⟨x.text.toArray⟩] 46)
  have hs2 : V.heap.size + 1 ≤ (W5.alloc (.cells #[.int .i64 x.at_, .string ⟨x.key.toArray⟩, .string ⟨x.text.toArray⟩] 46)).heap.size := by rw [World.size_alloc]; omega
  refine ⟨e4, hs2, fun v' w' k1 k2 => ?_⟩
  have h1 := heap_keep k2 (heap_al hru _) (fun e => by have := World.ownsRow.lt e4 _ e.symm; omega)
  have h2 := k2.size
  refine ⟨h1, v', Lib.heap_setCell_same (i := 1) h1 v', ?_, ?_, ?_⟩
  · have h3 : Ws w' (V.heap.size + 1) v' (ws ++ [x]) := by
      unfold Ws
      rw [List.length_append, wcells_snoc]
      exact k1
    exact own_set h3 (Nat.lt_succ_self _)
  · exact below_set ((hb.alloc (by omega) _).grown k2 (by omega) (fun k hk => by have := (World.ownsRow.lt e4 k hk).1; omega)) (Nat.le_refl _)
  · rw [World.size_setCell]; omega

set_option maxHeartbeats 10000000 in
set_option maxRecDepth 100000 in
theorem made_any (W : World) (v : Value) (l : List Int) (h : Row W 1 v l.length (l.map fun n => .int .i64 n)) (hw : ∀ n ∈ l, (Lit.int .i64 n).wf = true) :
    Calls Tryd.prog 31 #[v] W fun e w' => ∃ (v' : Value) (ns : List Nat), e = .returned v' ∧ ns.length ≤ 8 ∧ Rs w' W.heap.size v' (ns.map madeRow) ∧ Below W.heap.size W w' := by
  obtain ⟨ad, c, rfl, hc⟩ := h.slice
  have HH := Lib.hid (And.intro h hw)
  clear h hw
  go_enter Tryd.func31, Tryd.ntmps31
  go_wp2_with fail
  go_loopw [3, 4] (fun o i wr => ∃ (k : Nat) (ns : List Nat), i = .int .i64 k ∧ k ≤ l.length ∧ k ≤ 8 ∧ Hid (ns.length = k ∧ (∀ n ∈ ns, n < 1048576) ∧ Rs wr W.heap.size o (ns.map madeRow) ∧ Below W.heap.size W wr)) (fun _ i _ => l.length - (intOf i).toNat)
  case atStart => exact ⟨0, [], rfl, Nat.zero_le _, Nat.zero_le _, Lib.hid ⟨rfl, by simp, Rs.nil _ _, Below.refl _ _⟩⟩
  case round =>
    obtain ⟨k, ns, rfl, hk, hk8, hI⟩ := hrel
    obtain ⟨V, rfl⟩ : ∃ V, V = wr := ⟨wr, rfl⟩
    have d0 : (0 : Int) ≤ (k : Int) := by omega
    rcases Nat.lt_or_ge k l.length with hkl | hkg
    · have d1 : (k : Int) < l.length := by omega
      have d2 := lt_t (a := (k : Int)) (b := l.length) (by omega)
      have d2b : decide (k < l.length) = true := decide_eq_true hkl
      by_cases h8 : k < 8
      · have d3 := lt_t (a := (k : Int)) (b := 8) (by omega)
        have q : (l.map fun n => Value.int .i64 n)[k]? = some (.int .i64 l[k]) := by rw [List.getElem?_map, List.getElem?_eq_getElem hkl]; rfl
        obtain ⟨a, rfl, hcell⟩ := (HH.out.1.below hI.out.2.2.2).cell q
        have hX := Lib.hid (I64_of (HH.out.2 _ (List.getElem_mem hkl)))
        generalize l[k] = x at *
        clear q
        go_wp2_with fail
        refine (Mod_some x 1048576 _ hX.out (by decide) (by decide)).mono ?_
        rintro e w2 ⟨m, hm, rfl, rfl⟩
        have r0 := World.alloc_heap_new V (.cells #[.int .i64 0, .slice none 0 0] 39)
        have rb := Go.Joins.below_alloc1 V (.cells #[.int .i64 0, .slice none 0 0] 39)
        have rs : (V.alloc (.cells #[.int .i64 0, .slice none 0 0] 39)).heap.size = V.heap.size + 1 := World.size_alloc ..
        have HR := Lib.hid (And.intro r0 (And.intro rb rs))
        obtain ⟨p, hp1, hp2⟩ : ∃ p : Nat, p ≤ 1023 ∧ m ≤ 1024 * p + 1023 := ⟨m / 1024, by omega, by omega⟩
        have HM := Lib.hid (show m < 1048576 by omega)
        clear r0 rb rs hX hm
        go_wp2_with fail
        generalize World.alloc V _ = V1 at *
        go_loopw [7] (fun b wr => ∃ j : Nat, b = .int .i64 j ∧ j ≤ m % 4 + 1 ∧ Hid (∃ u, wr.heap[V.heap.size]? = some (.cells #[.int .i64 0, u] 39 (0, 0)) ∧ Ws wr (V.heap.size + 1) u (madeWords m j) ∧ Below V.heap.size V wr ∧ V.heap.size + 1 ≤ wr.heap.size)) (fun b _ => m % 4 + 1 - (intOf b).toNat)
        case atStart => exact ⟨0, rfl, Nat.zero_le _, Lib.hid ⟨_, HR.out.1, Ws.nil _ _, HR.out.2.1, by rw [HR.out.2.2]; exact Nat.le_refl _⟩⟩
        case round =>
          obtain ⟨j, rfl, hj, hJ⟩ := hrel
          obtain ⟨V2, rfl⟩ : ∃ V2, V2 = wr := ⟨wr, rfl⟩
          obtain ⟨u, hru, hWu, hbu, hsu⟩ := hJ.out
          obtain ⟨adu, cu, hu⟩ := hWu.slice
          rw [madeWords_length] at hu
          subst hu
          have j4 : (m : Int).tmod 4 = ((m % 4 : Nat) : Int) := tmod_nat m 4 _ rfl
          rcases Nat.lt_or_ge (m % 4) j with hjg | hjl
          · have e1 := le_f (a := (j : Int)) (b := ((m % 4 : Nat) : Int)) (by omega)
            have hje : j = m % 4 + 1 := by omega
            have hmr : (madeRow m).words.length = j := by rw [hje]; exact madeWords_length m _
            have hacc := hI.out.1
            have hWl : V2.ownsRow V.heap.size 46 3 (.slice adu j cu) j (wcells (madeRow m).words) := by
              have h9 := hWu.lower (B' := V.heap.size) (by omega)
              unfold Ws at h9
              rw [madeWords_length] at h9
              rw [show (madeRow m).words = madeWords m j by rw [hje]; rfl]
              exact h9
            obtain ⟨vs, e3, b3, hnx⟩ := Rs.step (r := madeRow m) hI.out.2.2.1 hI.out.2.2.2.size hbu hWl hmr.symm
            rw [List.length_map, hacc] at e3 hnx
            have e4 : (V2.alloc (.cells #[.int .i64 0, .slice adu j cu] 39)).ownsRow W.heap.size 39 2 u3 k (rcells vs (ns.map madeRow)) := e3
            have b4 : W.heap.size ≤ (V2.alloc (.cells #[.int .i64 0, .slice adu j cu] 39)).heap.size := b3
            have HNX := Lib.hid hnx
            obtain ⟨i0, hi, hz0, hz1, hz2⟩ := info_parts infoRow
            have hnc := new_cellsN V2 [.int .i64 0, .slice adu j cu] 39 rfl
            have h1c : ∀ v ∈ [Value.int .i64 0, .slice adu j cu], v.oneCell' = true := by
              intro v hv
              simp only [List.mem_cons, List.not_mem_nil, or_false] at hv
              rcases hv with rfl | rfl <;> rfl
            have c0 := cell2_0 hru
            have c1 := cell2_1 hru
            have HK := Lib.hid hacc
            clear hnx hWl hmr hje hWu hbu hru hacc e3 b3
            go_wp2_with (at_builtin; refine wpList_append_own _ rfl _ _ 23 rfl W.heap.size 39 i0 (.agg #[.int .i64 0, .slice none 0 0]) 2 32 Tryd.underlying23 hi hz0 hz1 hz2 rfl (by decide) _ _ _ rfl e4 ⟨V2.heap.size, 0, none⟩ 1 1 _ rfl rfl hnc h1c (by unfold maxLen; omega) (by omega) b4 ?_; intro v' w' hown hgr _)
            obtain ⟨y1, y2⟩ := HNX.out v' w' hown hgr
            exact ⟨⟨k + 1, ns ++ [m], by go_num, hkl, by omega, Lib.hid ⟨by rw [List.length_append, HK.out]; rfl, fun n hn => by
              rcases List.mem_append.1 hn with hn | hn
              · exact hI.out.2.1 n hn
              · rw [List.mem_singleton] at hn; rw [hn]; exact HM.out, by rw [List.map_append]; exact y1, hI.out.2.2.2.trans y2⟩⟩, by simp only [intOf]; omega⟩
          · have e1 := le_t (a := (j : Int)) (b := ((m % 4 : Nat) : Int)) (by omega)
            have HE := Lib.hid (show madeWord (m / 4 + 7 * j) = ⟨0, if (m / 4 + 7 * j) % 3 = 0 then madeKey ((m / 4 + 7 * j) / 8 % 3) else [], madeText ((m / 4 + 7 * j) % 8)⟩ from rfl)
            have z7 : (m / 4 + 7 * j) % 8 < 8 := by omega
            have z9 : (m / 4 + 7 * j) / 8 % 3 < 3 := by omega
            have hx8 := text_lit ((m / 4 + 7 * j) % 8) z7
            have hx3 := key_lit ((m / 4 + 7 * j) / 8 % 3) z9
            have f0 : (0 : Int) ≤ ((m : Int) / 4 + 7 * (j : Int)) % 8 := by omega
            have f1 : ((m : Int) / 4 + 7 * (j : Int)) % 8 < 8 := by omega
            have f2 : (0 : Int) ≤ ((m : Int) / 4 + 7 * (j : Int)) / 8 % 3 := by omega
            have f3 : ((m : Int) / 4 + 7 * (j : Int)) / 8 % 3 < 3 := by omega
            have hz0 : ((((m : Int) / 4 + 7 * (j : Int)) % 3 == 0) = true ∧ (m / 4 + 7 * j) % 3 = 0) ∨ ((((m : Int) / 4 + 7 * (j : Int)) % 3 == 0) = false ∧ (m / 4 + 7 * j) % 3 ≠ 0) := by
              by_cases h : (m / 4 + 7 * j) % 3 = 0
              · exact .inl ⟨by rw [beq_iff_eq]; omega, h⟩
              · exact .inr ⟨by rw [beq_eq_false_iff_ne]; omega, h⟩
            rcases hz0 with ⟨g0, hz0⟩ | ⟨g0, hz0⟩
            · have HX := Lib.hid (show madeWord (m / 4 + 7 * j) = ⟨0, madeKey ((m / 4 + 7 * j) / 8 % 3), madeText ((m / 4 + 7 * j) % 8)⟩ by rw [HE.out, if_pos hz0])
              clear hz0
              go_upto_region 14 with (fail)
              obtain ⟨_, q2, q3, q4⟩ := alloc2 V2 (.cells #[.string ⟨#[97]⟩, .string ⟨#[]⟩, .string ⟨#[98, 32, 99]⟩, .string ⟨#[35]⟩, .string ⟨#[120, 61, 121]⟩, .string ⟨#[34]⟩, .string ⟨#[49, 50]⟩, .string ⟨#[10]⟩] 9) (.cells #[.int .i64 0, .string ⟨(madeKey ((m / 4 + 7 * j) / 8 % 3)).toArray⟩, .string ⟨(madeText ((m / 4 + 7 * j) % 8)).toArray⟩] 46)
              have q2 := heap_al q2 (.cells #[.string ⟨#[107]⟩, .string ⟨#[105, 100]⟩, .string ⟨#[110, 45, 49]⟩] 9)
              have hB := q4.trans ((Go.Joins.below_alloc1 _ (.cells #[.string ⟨#[107]⟩, .string ⟨#[105, 100]⟩, .string ⟨#[110, 45, 49]⟩] 9)).mono q4.size)
              generalize World.alloc (World.alloc (World.alloc V2 _) _) _ = W5 at *
              generalize madeKey ((m / 4 + 7 * j) / 8 % 3) = K at *
              generalize madeText ((m / 4 + 7 * j) % 8) = T at *
              clear hx8 hx3 f0 f1 f2 f3 z7 z9 g0 e1
              obtain ⟨x0, x1, x2, _⟩ := cell3 q2
              have hru5 := heap_below hru hB
              have c0 := cell2_1 hru5
              obtain ⟨e3, b3, hnx⟩ := made_step (V := V) ⟨0, K, T⟩ (madeWords_length m j) (by omega) hru5 (hWu.below hB) (hbu.trans (hB.mono (by omega))) (Nat.le_trans hsu hB.size)
              dsimp only at e3 b3 hnx
              obtain ⟨i0, hi, hz0, hz1, hz2⟩ := info_parts infoWord
              have hnc := new_cellsN W5 [.int .i64 0, .string ⟨(K : List UInt8).toArray⟩, .string ⟨T.toArray⟩] 46 rfl
              have h1c : ∀ v ∈ [Value.int .i64 0, .string ⟨(K : List UInt8).toArray⟩, .string ⟨T.toArray⟩], v.oneCell' = true := wcell_one ⟨0, K, T⟩
              have HNX := Lib.hid hnx
              clear hnx hru hWu hbu hru5
              go_wp2_with (at_builtin; refine wpList_append_own _ rfl _ _ 37 rfl (V.heap.size + 1) 46 i0 (.agg #[.int .i64 0, .string ⟨#[]⟩, .string ⟨#[]⟩]) 3 40 Tryd.underlying37 hi hz0 hz1 hz2 rfl (by decide) _ _ _ rfl e3 ⟨W5.heap.size, 0, none⟩ 1 1 _ rfl rfl hnc h1c (by unfold maxLen; omega) (by omega) b3 ?_; intro v' w' hown hgr _; obtain ⟨z1, zz⟩ := HNX.out v' w' hown hgr; obtain ⟨ad', c', rfl⟩ := own_slice hown; have z2 := frozen2 z1 1; have z3 := cell2_1 z1)
              exact ⟨⟨j + 1, by go_num, by omega, Lib.hid (by rw [show madeWords m (j + 1) = madeWords m j ++ [madeWord (m / 4 + 7 * j)] from rfl, HX.out]; exact zz)⟩, by simp only [intOf]; omega⟩
            · have HX := Lib.hid (show madeWord (m / 4 + 7 * j) = ⟨0, [], madeText ((m / 4 + 7 * j) % 8)⟩ by rw [HE.out, if_neg hz0])
              clear hz0
              go_upto_region 14 with (fail)
              obtain ⟨_, q2, q3, hB⟩ := alloc2 V2 (.cells #[.string ⟨#[97]⟩, .string ⟨#[]⟩, .string ⟨#[98, 32, 99]⟩, .string ⟨#[35]⟩, .string ⟨#[120, 61, 121]⟩, .string ⟨#[34]⟩, .string ⟨#[49, 50]⟩, .string ⟨#[10]⟩] 9) (.cells #[.int .i64 0, .string ⟨#[]⟩, .string ⟨(madeText ((m / 4 + 7 * j) % 8)).toArray⟩] 46)
              clear q3
              generalize World.alloc (World.alloc V2 _) _ = W5 at *
              generalize madeText ((m / 4 + 7 * j) % 8) = T at *
              clear hx8 hx3 f0 f1 f2 f3 z7 z9 g0 e1
              obtain ⟨x0, x1, x2, _⟩ := cell3 q2
              have hru5 := heap_below hru hB
              have c0 := cell2_1 hru5
              obtain ⟨e3, b3, hnx⟩ := made_step (V := V) ⟨0, [], T⟩ (madeWords_length m j) (by omega) hru5 (hWu.below hB) (hbu.trans (hB.mono (by omega))) (Nat.le_trans hsu hB.size)
              dsimp only at e3 b3 hnx
              obtain ⟨i0, hi, hz0, hz1, hz2⟩ := info_parts infoWord
              have hnc := new_cellsN W5 [.int .i64 0, .string ⟨([] : List UInt8).toArray⟩, .string ⟨T.toArray⟩] 46 rfl
              have h1c : ∀ v ∈ [Value.int .i64 0, .string ⟨([] : List UInt8).toArray⟩, .string ⟨T.toArray⟩], v.oneCell' = true := wcell_one ⟨0, [], T⟩
              have HNX := Lib.hid hnx
              clear hnx hru hWu hbu hru5
              go_wp2_with (at_builtin; refine wpList_append_own _ rfl _ _ 37 rfl (V.heap.size + 1) 46 i0 (.agg #[.int .i64 0, .string ⟨#[]⟩, .string ⟨#[]⟩]) 3 40 Tryd.underlying37 hi hz0 hz1 hz2 rfl (by decide) _ _ _ rfl e3 ⟨W5.heap.size, 0, none⟩ 1 1 _ rfl rfl hnc h1c (by unfold maxLen; omega) (by omega) b3 ?_; intro v' w' hown hgr _; obtain ⟨z1, zz⟩ := HNX.out v' w' hown hgr; obtain ⟨ad', c', rfl⟩ := own_slice hown; have z2 := frozen2 z1 1; have z3 := cell2_1 z1)
              exact ⟨⟨j + 1, by go_num, by omega, Lib.hid (by rw [show madeWords m (j + 1) = madeWords m j ++ [madeWord (m / 4 + 7 * j)] from rfl, HX.out]; exact zz)⟩, by simp only [intOf]; omega⟩
      · have d3 := lt_f (a := (k : Int)) (b := 8) (by omega)
        go_wp2_with fail
        go_ret
        exact ⟨_, ns, rfl, by have := hI.out.1; omega, hI.out.2.2.1, hI.out.2.2.2⟩
    · have d2 := lt_f (a := (k : Int)) (b := l.length) (by omega)
      have d2b : decide (k < l.length) = false := decide_eq_false (by omega)
      go_wp2_with fail
      go_ret
      exact ⟨_, ns, rfl, by have := hI.out.1; omega, hI.out.2.2.1, hI.out.2.2.2⟩
end Go.Proofs.YtbcofimmfbmkoaaDoor
