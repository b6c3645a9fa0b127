/- The plain law of finding texts in a stream, chapter 10; no program in sight. -/
import Derived.Test.YtcpahelmaejjeaaDoorFeedPlain
namespace Go.Proofs.Stuff10

def fr (t : List UInt8) : List UInt8 := put t ++ [0]
theorem put_short {t : List UInt8} (h : t.length ≤ 300) : nz (put t) = true ∧ put t ≠ [] ∧ (put t).length ≤ 302 := by
  obtain ⟨h1, h2, h3⟩ := put_sizes _ t (Nat.le_refl _)
  refine ⟨h1, fun e => by rw [e] at h2; simp at h2, by omega⟩
theorem found_put (a : List (List UInt8) × Nat) {t : List UInt8} (h : t.length ≤ 300) : found a (put t) = (a.1 ++ [t], a.2) := by
  obtain ⟨_, h2, h3⟩ := put_short h
  unfold found
  rw [if_neg h2, get_put, if_neg (by simp; omega)]
theorem splitG_mid {y R : List UInt8} (a : List (List UInt8) × Nat) (h : nz y = true) : splitG (y ++ 0 :: R) a = splitG R (found a y) := by
  have e1 : (y ++ 0 :: R).take y.length = y := List.take_left' rfl
  have e2 : (y ++ 0 :: R).drop (y.length + 1) = R := by rw [List.drop_append, List.drop_of_length_le (by omega), show y.length + 1 - y.length = 1 by omega]; rfl
  have := splitG_zero (l := y ++ 0 :: R) (k := y.length) a (by rw [e1]; exact h) (by rw [List.getElem?_append_right (Nat.le_refl _), Nat.sub_self]; rfl)
  rw [this, e1, e2]
theorem splitG_fr (a : List (List UInt8) × Nat) {t : List UInt8} (h : t.length ≤ 300) (R : List UInt8) : splitG (fr t ++ R) a = splitG R (a.1 ++ [t], a.2) := by
  unfold fr
  rw [List.append_assoc]
  exact (splitG_mid a (put_short h).1).trans (by rw [found_put a h]; rfl)
theorem splitG_frs : ∀ (l : List (List UInt8)), (∀ t ∈ l, t.length ≤ 300) → ∀ (R : List UInt8) (a : List (List UInt8) × Nat), splitG (l.flatMap fr ++ R) a = splitG R (a.1 ++ l, a.2)
  | [], _, R, a => by simp
  | t :: l, h, R, a => by
    rw [List.flatMap_cons, List.append_assoc, splitG_fr a (h t List.mem_cons_self), splitG_frs l (fun x hx => h x (List.mem_cons_of_mem _ hx))]
    simp
theorem splitG_nil (a : List (List UInt8) × Nat) : splitG [] a = (a, []) := splitG_none a rfl
theorem splitG_all (l : List (List UInt8)) (h : ∀ t ∈ l, t.length ≤ 300) (a : List (List UInt8) × Nat) : splitG (l.flatMap fr) a = ((a.1 ++ l, a.2), []) := by
  have := splitG_frs l h [] a
  rw [List.append_nil] at this
  rw [this, splitG_nil]
theorem splitG_any : ∀ (n : Nat) (y : List UInt8), y.length ≤ n → ∀ (R : List UInt8) (a : List (List UInt8) × Nat), ∃ X g, splitG (y ++ 0 :: R) a = splitG R (a.1 ++ X, g)
  | n, y, hn, R, a => by
    rcases first_zero y with h | ⟨k, h1, h2⟩
    · exact ⟨_, _, by rw [splitG_mid a h, found_shift]⟩
    · have hk : k < y.length := by
        rcases Nat.lt_or_ge k y.length with h | h
        · exact h
        · rw [List.getElem?_eq_none h] at h2; cases h2
      have e := splitG_zero (l := y ++ 0 :: R) (k := k) a (by rw [List.take_append_of_le_length (by omega)]; exact h1) (by rw [List.getElem?_append_left hk]; exact h2)
      rw [List.take_append_of_le_length (by omega), List.drop_append_of_le_length (by omega)] at e
      cases n with
      | zero => omega
      | succ n =>
        obtain ⟨X, g, e2⟩ := splitG_any n (y.drop (k + 1)) (by rw [List.length_drop]; omega) R (found a (y.take k))
        refine ⟨(found ([], 0) (y.take k)).1 ++ X, g, ?_⟩
        rw [e, e2, found_shift a (y.take k), List.append_assoc]
/-- Behind garbage. -/
theorem find_garbage (g : List UInt8) (l : List (List UInt8)) (h : ∀ t ∈ l, t.length ≤ 300) : ∃ X n, splitS (g ++ 0 :: l.flatMap fr) = ((X ++ l, n), []) := by
  obtain ⟨X, n, e⟩ := splitG_any _ g (Nat.le_refl _) (l.flatMap fr) ([], 0)
  exact ⟨X, n, by rw [splitS_G, e, splitG_all l h]; simp⟩
/-- Behind a changed byte. -/
theorem find_changed (l : List (List UInt8)) (h : ∀ t ∈ l, t.length ≤ 300) (k hit : Nat) (v : UInt8) (hh : hit < l.length) (h1 : ((l.take hit).flatMap fr).length ≤ k) (h2 : k < ((l.take (hit + 1)).flatMap fr).length) :
    ∃ X n r, splitS ((l.flatMap fr).set k v) = ((l.take hit ++ X ++ l.drop (hit + 2), n), r) := by
  have hP : ∀ t ∈ l.take hit, t.length ≤ 300 := fun t ht => h t (List.mem_of_mem_take ht)
  have hQ : ∀ t ∈ l.drop (hit + 1), t.length ≤ 300 := fun t ht => h t (List.mem_of_mem_drop ht)
  have hM := h _ (List.getElem_mem hh)
  have e0 : l = l.take hit ++ l[hit] :: l.drop (hit + 1) := by rw [← List.drop_eq_getElem_cons hh, List.take_append_drop]
  have eS : l.flatMap fr = (l.take hit).flatMap fr ++ (fr l[hit] ++ (l.drop (hit + 1)).flatMap fr) := by
    conv => lhs; rw [e0]
    rw [List.flatMap_append, List.flatMap_cons]
  rw [List.take_succ_eq_append_getElem hh, List.flatMap_append, List.length_append] at h2
  simp only [List.flatMap_cons, List.flatMap_nil, List.append_nil] at h2
  generalize hPd : (l.take hit).flatMap fr = P at *
  obtain ⟨j, rfl⟩ : ∃ j, k = P.length + j := ⟨k - P.length, by omega⟩
  have hj : j < (fr l[hit]).length := by omega
  have e1 : (l.flatMap fr).set (P.length + j) v = P ++ ((fr l[hit]).set j v ++ (l.drop (hit + 1)).flatMap fr) := by
    rw [eS, List.set_append_right _ _ (by omega), show P.length + j - P.length = j by omega, List.set_append_left _ _ hj]
  rw [e1, splitS_G, ← hPd, splitG_frs _ hP]
  have hd : l.drop (hit + 1) = (l.drop (hit + 1)).take 1 ++ l.drop (hit + 2) := by
    rw [show l.drop (hit + 2) = (l.drop (hit + 1)).drop 1 by rw [List.drop_drop], List.take_append_drop]
  have hl : (fr l[hit]).length = (put l[hit]).length + 1 := by unfold fr; simp
  by_cases hc : j < (put l[hit]).length ∨ v = 0
  · obtain ⟨y, hy⟩ : ∃ y, (fr l[hit]).set j v = y ++ [0] := by
      rcases hc with hc | hc
      · exact ⟨(put l[hit]).set j v, by unfold fr; rw [List.set_append_left _ _ hc]⟩
      · rcases Nat.lt_or_ge j (put l[hit]).length with hc2 | hc2
        · exact ⟨(put l[hit]).set j v, by unfold fr; rw [List.set_append_left _ _ hc2]⟩
        · refine ⟨put l[hit], ?_⟩
          unfold fr
          rw [List.set_append_right _ _ hc2, show j - (put l[hit]).length = 0 by omega, hc]; rfl
    obtain ⟨X, g, e⟩ := splitG_any _ y (Nat.le_refl _) ((l.drop (hit + 1)).flatMap fr) ([] ++ l.take hit, 0)
    refine ⟨X ++ (l.drop (hit + 1)).take 1, g, [], ?_⟩
    rw [hy, List.append_assoc]
    refine e.trans ?_
    rw [splitG_all _ hQ]
    simp only [List.nil_append, List.append_assoc]
    rw [← hd]
  · have hj2 : j = (put l[hit]).length := by omega
    have hv : v ≠ 0 := fun e => hc (.inr e)
    have hy : (fr l[hit]).set j v = put l[hit] ++ [v] := by
      unfold fr
      rw [List.set_append_right _ _ (by omega), show j - (put l[hit]).length = 0 by omega]; rfl
    rw [hy]
    by_cases hn : hit + 1 < l.length
    · have hq : l.drop (hit + 1) = l[hit + 1] :: l.drop (hit + 2) := List.drop_eq_getElem_cons hn
      obtain ⟨X, g, e⟩ := splitG_any _ (put l[hit] ++ [v] ++ put l[hit + 1]) (Nat.le_refl _) ((l.drop (hit + 2)).flatMap fr) ([] ++ l.take hit, 0)
      refine ⟨X, g, [], ?_⟩
      rw [hq, List.flatMap_cons]
      have e2 : put l[hit] ++ [v] ++ (fr l[hit + 1] ++ (l.drop (hit + 2)).flatMap fr) = put l[hit] ++ [v] ++ put l[hit + 1] ++ 0 :: (l.drop (hit + 2)).flatMap fr := by
        unfold fr; simp
      rw [e2, e, splitG_all _ (fun t ht => h t (List.mem_of_mem_drop ht))]
      simp
    · have hq : l.drop (hit + 1) = [] := List.drop_of_length_le (by omega)
      refine ⟨[], 0, put l[hit] ++ [v], ?_⟩
      rw [hq, List.flatMap_nil, List.append_nil, splitG_none _ (by
        have := (put_short hM).1
        exact (nz_append _ _).trans (by rw [this]; unfold nz; simpa using hv)), List.drop_of_length_le (by omega)]
      simp
theorem take_hit {α : Type} (l X Y : List α) (hit : Nat) (h : hit ≤ l.length) : (l.take hit ++ X ++ Y).take hit = l.take hit := by
  rw [List.append_assoc, List.take_append_of_le_length (by simp; omega), List.take_take, Nat.min_self]
theorem drop_last {α : Type} (P Y : List α) : (P ++ Y).drop ((P ++ Y).length - Y.length) = Y := by
  rw [List.length_append, show P.length + Y.length - Y.length = P.length by omega, List.drop_left' rfl]
end Go.Proofs.Stuff10
