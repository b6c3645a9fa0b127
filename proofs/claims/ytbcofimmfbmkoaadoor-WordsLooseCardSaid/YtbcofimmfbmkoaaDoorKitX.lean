/- Chapter 3: arguments that are words and rows, opened. -/
import Derived.Test.YtbcofimmfbmkoaaDoorKitA
import Derived.Test.YtbcofimmfbmkoaaDoorWordsQ
import Derived.Deep.Strs
import Derived.SizedLaws
namespace Go.Proofs.YtbcofimmfbmkoaaDoor
open Go.RowKit Go.ChangeShapes Go.WideShapes Go.Deep Words3

theorem weightsAll_mem {H : Type} {P : Program} {e : TypeId} : ∀ {l : List (DataW H)} {d : DataW H}, d ∈ l → ∀ n ∈ d.weights P e, n ∈ DataW.weightsAll P e l
  | x :: l, d, h, n, hn => by
    simp only [DataW.weightsAll, List.mem_append]
    rcases List.mem_cons.1 h with rfl | h
    · exact .inl hn
    · exact .inr (weightsAll_mem h n hn)
  | [], _, h, _, _ => by cases h
section
variable {H : Type} {enc : TypeId × Value → H} {P : Program}
theorem open_words {w : World} {base fuel : Nat} {spare : Nat → Bool} {held : Bool} {v : Value} {x : DataW H × List MemPlace} {t e : TypeId} {f0 f1 f2 : Field} (ht : P.underlying t = some (.slice e)) (he : P.underlying e = some (.struct #[f0, f1, f2]))
    (hone : oneCellFields P #[f0, f1, f2] = true) (hc : P.cellsOf e = 3) (hby : 1 ≤ P.bytesOf e) (h0 : P.underlying f0.type = some (.int .i64)) (h1 : P.underlying f1.type = some .string) (h2 : P.underlying f2.type = some .string)
    (h : DataW.trod enc P w base spare held fuel t [v] = some x) : ∃ ws : List Wd, WordsAt w v ws ∧ ∀ B : Nat, (∀ n ∈ x.1.weights P t, n ≤ B) → ws.length ≤ B := by
  rcases open_slice ht h with ⟨hn, _⟩ | ⟨a, len, cap, m, n, D, Pl, hv, _, hl, _, hm, hx, hV⟩
  · cases hn
    exact ⟨[], Row.nil _ _, fun B _ => Nat.zero_le _⟩
  · cases hv
    obtain ⟨l, k1, k2, _, k4⟩ := rows_of (w := w) (ad := some a) (size := 3) wcell (fun _ => True) (fun _ => rfl) len (fun i hi => by
      obtain ⟨cs, hcell, htr⟩ := hV i (by rw [hm]; split <;> omega)
      rw [hc] at hcell
      obtain ⟨_, hlen, hat⟩ := World.cells?_some hcell
      obtain ⟨y0, y1, y2, n', _, _, t0, t1, t2⟩ := trod_struct3 he htr
      obtain ⟨o0, q0⟩ := hone_of hone 0 f0 rfl
      obtain ⟨o1, q1⟩ := hone_of hone 1 f1 rfl
      obtain ⟨o2, q2⟩ := hone_of hone 2 f2 rfl
      match cs, hlen with
      | [c0, c1, c2], _ =>
        simp only [o0, q0, o1, q1, o2, q2, List.drop_zero, List.drop_succ_cons, List.take_succ_cons, List.take_zero] at t0 t1 t2
        obtain ⟨z0, hz0, _, _⟩ := DataW.trod_int h0 t0
        obtain ⟨z1, hz1, _, _⟩ := DataW.trod_string h1 t1
        obtain ⟨z2, hz2, _, _⟩ := DataW.trod_string h2 t2
        cases hz0
        cases hz1
        cases hz2
        refine ⟨⟨z0, z1.data.toList, z2.data.toList⟩, trivial, fun j v hj => ⟨a, rfl, ?_⟩⟩
        match j, hj with
        | 0, hj =>
          simp [wcell] at hj; subst hj
          have := hat 0 (by omega)
          rw [Go.Deep.add_add] at this
          rw [this]; rfl
        | 1, hj =>
          simp [wcell] at hj; subst hj
          have := hat 1 (by omega)
          rw [Go.Deep.add_add] at this
          rw [this]; rfl
        | 2, hj =>
          simp [wcell] at hj; subst hj
          have := hat 2 (by omega)
          rw [Go.Deep.add_add] at this
          rw [this]; rfl
        | j + 3, hj => simp [wcell] at hj)
    subst k1
    refine ⟨l, ⟨k2, _, _, rfl, hl, k4⟩, fun B hB => ?_⟩
    have hw := hB ((l.length + (m - l.length)) * P.bytesOf e) (by rw [hx]; simp [DataW.weights, ht])
    have := Nat.le_mul_of_pos_right (l.length + (m - l.length)) hby
    omega
theorem open_rows {w : World} {base fuel : Nat} {spare : Nat → Bool} {held : Bool} {v : Value} {x : DataW H × List MemPlace} {t e tw ew : TypeId} {f0 f1 g0 g1 g2 : Field} (ht : P.underlying t = some (.slice e)) (he : P.underlying e = some (.struct #[f0, f1]))
    (hone : oneCellFields P #[f0, f1] = true) (hc : P.cellsOf e = 2) (hby : 1 ≤ P.bytesOf e) (h0 : P.underlying f0.type = some (.int .i64)) (hf1 : f1.type = tw) (htw : P.underlying tw = some (.slice ew)) (hew : P.underlying ew = some (.struct #[g0, g1, g2]))
    (honew : oneCellFields P #[g0, g1, g2] = true) (hcw : P.cellsOf ew = 3) (hbw : 1 ≤ P.bytesOf ew) (k0 : P.underlying g0.type = some (.int .i64)) (k1 : P.underlying g1.type = some .string) (k2 : P.underlying g2.type = some .string)
    (h : DataW.trod enc P w base spare held fuel t [v] = some x) : ∃ rs : List Rw, RowsAt w v rs ∧ ∀ B : Nat, (∀ n ∈ x.1.weights P t, n ≤ B) → rs.length ≤ B ∧ ∀ r ∈ rs, r.words.length ≤ B := by
  rcases open_slice ht h with ⟨hn, _⟩ | ⟨a, len, cap, m, n, D, Pl, hv, _, hl, _, hm, hx, hV⟩
  · cases hn
    exact ⟨[], ⟨[], rfl, Row.nil _ _, fun p hp => by cases hp⟩, fun B _ => ⟨Nat.zero_le _, fun r hr => by cases hr⟩⟩
  · cases hv
    obtain ⟨l, q1, q2, q3, q4⟩ := rows_of (w := w) (ad := some a) (size := 2) (fun p : Rw × Value => [Value.int .i64 (p.1.at_ : Int), p.2]) (fun p => WordsAt w p.2 p.1.words ∧ ∀ B : Nat, (∀ n ∈ x.1.weights P t, n ≤ B) → p.1.words.length ≤ B) (fun _ => rfl) len (fun i hi => by
      obtain ⟨cs, hcell, htr⟩ := hV i (by rw [hm]; split <;> omega)
      rw [hc] at hcell
      obtain ⟨_, hlen, hat⟩ := World.cells?_some hcell
      obtain ⟨y0, y1, n', hD, _, t0, t1⟩ := trod_struct2 he htr
      obtain ⟨o0, s0⟩ := hone_of hone 0 f0 rfl
      obtain ⟨o1, s1⟩ := hone_of hone 1 f1 rfl
      match cs, hlen with
      | [c0, c1], _ =>
        simp only [o0, s0, o1, s1, List.drop_zero, List.drop_succ_cons, List.take_succ_cons, List.take_zero] at t0 t1
        obtain ⟨z0, hz0, _, _⟩ := DataW.trod_int h0 t0
        cases hz0
        rw [hf1] at t1
        obtain ⟨ws, hws, hwb⟩ := open_words htw hew honew hcw hbw k0 k1 k2 t1
        refine ⟨(⟨z0, ws⟩, c1), ⟨hws, fun B hB => hwb B fun n hn => hB n ?_⟩, fun j v hj => ⟨a, rfl, ?_⟩⟩
        · rw [hx]
          simp only [DataW.weights, ht, List.mem_cons, List.mem_append]
          refine .inr (.inl (weightsAll_mem (d := D i) (List.mem_map.2 ⟨i, List.mem_range.2 hi, rfl⟩) n ?_))
          have hDi : D i = .agg [y0.1, y1.1] := congrArg Prod.fst hD
          rw [hDi]
          simp only [DataW.weights, he]
          exact DataW.weights_mem_each (j := 1) (t := f1.type) rfl rfl n (by rw [hf1]; exact hn)
        · match j, hj with
          | 0, hj =>
            simp at hj; subst hj
            have := hat 0 (by omega)
            rw [Go.Deep.add_add] at this
            rw [this]; rfl
          | 1, hj =>
            simp at hj; subst hj
            have := hat 1 (by omega)
            rw [Go.Deep.add_add] at this
            rw [this]; rfl
          | j + 2, hj => simp at hj)
    subst q1
    have hz : (l.map Prod.fst).zip (l.map Prod.snd) = l := by
      rw [List.zip_map']; simp
    have hr : rcells (l.map Prod.snd) (l.map Prod.fst) = l.flatMap (fun p : Rw × Value => [Value.int .i64 (p.1.at_ : Int), p.2]) := by unfold rcells; rw [hz]
    refine ⟨l.map Prod.fst, ⟨l.map Prod.snd, by simp, ?_, fun p hp => ?_⟩, fun B hB => ⟨?_, fun r hr => ?_⟩⟩
    · rw [hr, List.length_map]
      exact ⟨q2, _, _, rfl, hl, q4⟩
    · rw [hz] at hp
      exact (q3 p hp).1
    · have hw := hB ((l.length + (m - l.length)) * P.bytesOf e) (by rw [hx]; simp [DataW.weights, ht])
      have := Nat.le_mul_of_pos_right (l.length + (m - l.length)) hby
      rw [List.length_map]; omega
    · obtain ⟨p, hp, rfl⟩ := List.mem_map.1 hr
      exact (q3 p hp).2 B hB
end
end Go.Proofs.YtbcofimmfbmkoaaDoor
