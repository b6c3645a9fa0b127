/- Chapter 3: the walk of the statement's function WordsLoose. -/
import Derived.Test.YtbcofimmfbmkoaaDoorWlawI
namespace Go.Proofs.YtbcofimmfbmkoaaDoor
open Go.RowKit Go.Shelf Words3

theorem size_rows (W : World) : (Go.sizeOf (Tryd.prog.elem 23)).run Tryd.prog W = .ok 2 W := by
  rw [show Tryd.prog.elem 23 = 39 by kernel_rfl]
  exact Tryd.sizeOf39 W
theorem part_row {w : World} {ad : Option Addr} {c : Nat} {rs : List Rw} (h : RowsAt w (.slice ad rs.length c) rs) (i : Nat) (hi : i < rs.length) :
    ∃ a' c', (∀ W, (Instr.slice 23 (.slice ad rs.length c) (some (.int .i64 (i : Int))) (some (.int .i64 ((i : Int) + 1))) none).run Tryd.prog W = .ok (.slice (some a') 1 c') W) ∧ RowsAt w (.slice (some a') 1 c') [rs[i]] := by
  obtain ⟨a, u, rfl, x0, x1, hw⟩ := h.row (List.getElem?_eq_getElem hi)
  have hc : rs.length ≤ c := by
    obtain ⟨ad2, c2, e, hle⟩ := h.slice
    cases e; exact hle
  refine ⟨a.add (i * 2), c - i, fun W => ?_, [u], rfl, ?_, fun p hp => ?_⟩
  · rw [run_slice_lh (P := Tryd.prog) W 23 (some a) rs.length c (by kernel_rfl) .i64 .i64 (i : Int) ((i : Int) + 1) (by omega) (by omega) (by omega), size_rows]
    simp only [Result.andThen, sliced]
    rw [show ((i : Int) + 1).toNat = i + 1 by omega, show (i : Int).toNat = i by omega, if_neg (by omega), show i + 1 - i = 1 by omega]
    rfl
  · refine ⟨rfl, _, _, rfl, by show 1 ≤ c - i; omega, fun j v hj => ⟨_, rfl, ?_⟩⟩
    match j, hj with
    | 0, hj =>
      simp only [rcells, List.zip_cons_cons, List.zip_nil_right, List.flatMap_cons, List.flatMap_nil, List.append_nil, List.getElem?_cons_zero, Option.some.injEq] at hj
      subst hj
      rw [add_zero]; exact x0
    | 1, hj =>
      simp only [rcells, List.zip_cons_cons, List.zip_nil_right, List.flatMap_cons, List.flatMap_nil, List.append_nil, List.getElem?_cons_succ, List.getElem?_cons_zero, Option.some.injEq] at hj
      subst hj
      have e := add_more (a.add (i * 2)) 0 1 (by decide)
      rw [add_zero] at e
      rw [show (1 : Nat) = 0 + 1 from rfl, e]; exact x1
    | j + 2, hj => simp [rcells] at hj
  · simp only [List.zip_cons_cons, List.zip_nil_right, List.mem_singleton] at hp
    subst hp
    exact hw
theorem cut_last (L : List UInt8) (W : World) : (Instr.slice 9 (.string ⟨(L ++ [10]).toArray⟩) none (some (.int .i64 (L.length : Int))) none).run Tryd.prog W = .ok (.string ⟨L.toArray⟩) W := by
  rw [run_slice_string_to_if (h := Tryd.underlying9), if_pos ⟨by omega, by show (L.length : Int) ≤ ((L ++ [10]).length : Nat); rw [List.length_append]; omega⟩]
  have e : (⟨(L ++ [10]).toArray⟩ : ByteArray).extract 0 (L.length : Int).toNat = ⟨L.toArray⟩ := by
    rw [show (L.length : Int).toNat = L.length by omega, ext_take _ _ (by show L.length ≤ (L ++ [10]).length; rw [List.length_append]; omega)]
    show (⟨((L ++ [10]).take L.length).toArray⟩ : ByteArray) = _
    rw [List.take_left']; rfl
  rw [e]
theorem pre_lit (z : Nat) (h : z < 5) : ([Value.string ⟨#[]⟩, .string ⟨#[32, 32]⟩, .string ⟨#[10]⟩, .string ⟨#[35, 32, 34, 120, 10]⟩, .string ⟨#[32, 35, 10, 10]⟩] : List Value)[z]'h = .string ⟨(preT z).toArray⟩ := by
  match z, h with
  | 0, _ => rfl
  | 1, _ => rfl
  | 2, _ => rfl
  | 3, _ => rfl
  | 4, _ => rfl
  | z + 5, h => exact absurd h (by omega)
theorem suf_lit (z : Nat) (h : z < 4) : ([Value.string ⟨#[]⟩, .string ⟨#[32]⟩, .string ⟨#[32, 35, 32, 34]⟩, .string ⟨#[32, 32, 35, 107, 61, 49]⟩] : List Value)[z]'h = .string ⟨(sufT z).toArray⟩ := by
  match z, h with
  | 0, _ => rfl
  | 1, _ => rfl
  | 2, _ => rfl
  | 3, _ => rfl
  | z + 4, h => exact absurd h (by omega)
theorem pre_len (z : Nat) : (preT z).length ≤ 5 := by
  unfold preT
  split <;> simp
theorem cat5 (a b c d : List UInt8) : (⟨a.toArray⟩ : ByteArray) ++ ⟨b.toArray⟩ ++ ⟨c.toArray⟩ ++ ⟨d.toArray⟩ ++ ⟨#[10]⟩ = ⟨(a ++ (b ++ c ++ d ++ [10])).toArray⟩ := by
  apply ByteArray.ext
  simp [ByteArray.data_append]
abbrev looses (ps : List (Nat × Nat × Nat)) : List UInt8 := ps.flatMap fun x => loose x.1 x.2.1 (madeRow x.2.2)
theorem looses_snoc (ps : List (Nat × Nat × Nat)) (p q n : Nat) : looses (ps ++ [(p, q, n)]) = looses ps ++ (preT p ++ lineF (madeRow n).words ++ sufT q ++ [10]) := by
  unfold looses
  rw [List.flatMap_append]
  simp [loose]

set_option maxHeartbeats 10000000 in
set_option maxRecDepth 100000 in
theorem lawLoose_any (v v2 : Value) (l l2 : List Int) (W : World) (h : Row W 1 v l.length (l.map fun n => .int .i64 n)) (hw : ∀ n ∈ l, (Lit.int .i64 n).wf = true) (h2 : Row W 1 v2 l2.length (l2.map fun n => .int .i64 n)) (hw2 : ∀ n ∈ l2, (Lit.int .i64 n).wf = true) :
    Calls Tryd.prog 10 #[v, v2] W fun e w' => e = .returned (.bool true) ∧ Below W.heap.size W w' := by
  obtain ⟨ad, c, rfl, hc⟩ := h.slice
  obtain ⟨bd, d, rfl, hd⟩ := h2.slice
  have HN := Lib.hid (And.intro h hw)
  have HM := Lib.hid (And.intro h2 hw2)
  have HK := Lib.hid (fun W => known_any W)
  clear h hw h2 hw2
  go_enter Tryd.func10, Tryd.ntmps10
  go_wp2_with fail
  refine (HK.out _).mono ?_
  rintro e w1 ⟨rfl, b1⟩
  go_wp2_with fail
  refine (made_any _ _ l (HN.out.1.below b1) HN.out.2).mono ?_
  rintro e w2 ⟨v3, ns, rfl, hns, r2, b2⟩
  obtain ⟨ad2, c2, rfl⟩ := r2.slice
  have hml : (ns.map madeRow).length = ns.length := List.length_map _
  rw [hml]
  have H2 := Lib.hid (And.intro r2.at_ (andThen b1 b2))
  clear r2 b1 b2
  go_wp2_with fail
  go_loopw [7, 8] (fun t i wr => ∃ (k : Nat) (ps : List (Nat × Nat × Nat)), i = .int .i64 k ∧ t = .string ⟨(looses ps).toArray⟩ ∧ k ≤ ns.length ∧ (looses ps).length ≤ 112 * k ∧ Hid (ps.length = k ∧ ps.map (fun x => x.2.2) = ns.take k ∧ Below w2.heap.size w2 wr)) (fun _ i _ => ns.length - (intOf i).toNat)
  case atStart => exact ⟨0, [], rfl, rfl, Nat.zero_le _, Nat.zero_le _, Lib.hid ⟨rfl, rfl, Below.refl _ _⟩⟩
  case round =>
    obtain ⟨k, ps, rfl, rfl, hk, hpl, hI⟩ := hrel
    obtain ⟨V, rfl⟩ : ∃ V, V = wr := ⟨wr, rfl⟩
    have hp2 : (looses ps).length ≤ 1000 := by omega
    have d0 : (0 : Int) ≤ (k : Int) := by omega
    rcases Nat.lt_or_ge k ns.length with hkl | hkg
    · have d1 := lt_t (a := (k : Int)) (b := ns.length) (by omega)
      have d1b : (k : Int) < ns.length := by omega
      have hbV := andThen H2.out.2 hI.out.2.2
      have HA := Lib.hid (At_some l2 _ k V (HM.out.1.below hbV) HM.out.2 (by omega))
      obtain ⟨a', c', hsl, hra⟩ := part_row (H2.out.1.below hI.out.2.2) k (by rw [hml]; exact hkl)
      rw [hml] at hsl
      rw [List.getElem_map] at hra
      have i1 : IntKind.i64.wrap ((k : Int) + 1) = (k : Int) + 1 := by rw [IntKind.wrap_i64]; omega
      have hfit : Fit [madeRow ns[k]] := by have := (made_fit [ns[k]]).1; simpa using this
      have HT := Lib.hid (Text_any V _ _ hra hfit (by simp))
      have hok := (madeRow_ok ns[k]).2.2
      rw [line_text] at HT
      have htk : ns.take (k + 1) = ns.take k ++ [ns[k]] := List.take_succ_eq_append_getElem hkl
      have HTK := Lib.hid htk
      have HLS := Lib.hid (fun p q => looses_snoc ps p q ns[k])
      have hcl := fun W => cut_last (lineF (madeRow ns[k]).words) W
      generalize ns[k] = nk at *
      generalize lineF (madeRow nk).words = L at *
      generalize looses ps = T at *
      clear htk hra hfit
      go_wp2_with fail
      refine HA.out.mono ?_
      rintro e w3 ⟨x, hx, rfl, rfl⟩
      have HX := Lib.hid hx
      clear HA hx
      go_wp2_with fail
      refine (Mod_some x 60 _ HX.out (by decide) (by decide)).mono ?_
      rintro e w4 ⟨m, hm, rfl, rfl⟩
      have hm60 : m < 60 := by omega
      clear hm
      go_wp2_with fail
      refine HT.out.mono ?_
      rintro e w5 ⟨rfl, b5⟩
      have hb5 := Lib.hid (hI.out.2.2.trans (b5.mono hI.out.2.2.size))
      have z5 : m % 5 < 5 := by omega
      have z4 : m / 5 % 4 < 4 := by omega
      have hx5 := pre_lit (m % 5) z5
      have hx4 := suf_lit (m / 5 % 4) z4
      have f0 : (0 : Int) ≤ (m : Int) % 5 := by omega
      have f1 : (m : Int) % 5 < 5 := by omega
      have f2 : (0 : Int) ≤ (m : Int) / 5 % 4 := by omega
      have f3 : (m : Int) / 5 % 4 < 4 := by omega
      have hP : (preT (m % 5)).length ≤ 5 := pre_len _
      have hS : (sufT (m / 5 % 4)).length ≤ 6 := (suf_dead _).2.2
      have HPS := Lib.hid (HLS.out (m % 5) (m / 5 % 4))
      have q3 : (L ++ [10]).isEmpty = false := by rw [List.isEmpty_eq_false_iff]; simp
      have q4 : ¬ (L ++ [10]) = [] := by simp
      clear HT b5 hsl HLS
      go_wp2_with fail
      go_region
      all_goals go_wp2_with fail
      all_goals exact ⟨⟨k + 1, ps ++ [(m % 5, m / 5 % 4, nk)], by go_num, by rw [HPS.out]; exact congrArg Value.string (cat5 T _ L _), hkl, by rw [HPS.out]; simp only [List.length_append, List.length_cons, List.length_nil]; omega, Lib.hid ⟨by rw [List.length_append, hI.out.1]; rfl, by rw [List.map_append, hI.out.2.1, HTK.out]; rfl, Below.drew (hb5.out.trans ((Go.Joins.below_alloc2 w5 _ _).mono hb5.out.size))⟩⟩, by simp only [intOf]; omega⟩
    · obtain rfl : k = ns.length := by omega
      have d1 := lt_f (a := (ns.length : Int)) (b := ns.length) (by omega)
      obtain ⟨e1, e2, e3⟩ := hI.out
      obtain ⟨g1, g2⟩ := loose_read ps (by omega)
      rw [List.take_length] at e2
      have hkt : (rowsF (looses ps)).rows.map ktR = (ns.map madeRow).map ktR := by
        rw [g2, ← e2, List.map_map, List.map_map]; rfl
      obtain ⟨S1, S2⟩ := rowsF_small (looses ps)
      have HR := Lib.hid (Rows_any ⟨(looses ps).toArray⟩ V)
      rw [show (⟨(looses ps).toArray⟩ : ByteArray).data.toList = looses ps from rfl] at HR
      have g1 : (rowsF (looses ps)).err = 0 := g1
      have HG := Lib.hid (show Agree false (rowsF (looses ps)).rows (ns.map madeRow) from ⟨hkt, fun h => by cases h⟩)
      have H3 := Lib.hid (And.intro (H2.out.1.below e3) (andThen H2.out.2 e3))
      clear hkt g2 e1 e2 e3 hI
      generalize rowsF (looses ps) = R at *
      obtain ⟨rs4, er, pl⟩ := R
      dsimp only at g1 S1 S2 HG HR
      subst g1
      go_wp2_with fail
      refine HR.out.mono ?_
      rintro e w4 ⟨v4, rfl, r4, b4⟩
      obtain ⟨ad4, c4, rfl⟩ := r4.slice
      have a4 := Go.Joins.below_alloc1 w4 (.cells #[.int .i64 0, .int .i64 (pl : Int)] 26)
      have k4 := World.alloc_heap_new w4 (.cells #[.int .i64 0, .int .i64 (pl : Int)] 26)
      have bb := b4.trans (a4.mono b4.size)
      have H4 := Lib.hid (And.intro (H3.out.1.below bb) (And.intro (r4.at_.below a4) (andThen H3.out.2 bb)))
      have x0 := cell2_0 k4
      clear HR r4 b4 a4 k4 bb H3
      go_wp2_with fail
      have R4 := H4.out.1
      rw [hml] at R4
      refine (same_true _ _ _ rs4 (ns.map madeRow) false H4.out.2.1 R4 HG.out S1 S2).mono ?_
      rintro e w5 ⟨rfl, b5⟩
      have t5 := andThen H4.out.2.2 b5
      go_wp2_with fail
      go_ret
      exact ⟨rfl, t5⟩
end Go.Proofs.YtbcofimmfbmkoaaDoor
