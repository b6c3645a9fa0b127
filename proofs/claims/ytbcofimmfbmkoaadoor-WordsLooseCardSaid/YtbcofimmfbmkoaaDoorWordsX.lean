/- The walk of the reference's Rows, chapter 3. -/
import Derived.Test.YtbcofimmfbmkoaaDoorWordsW
import Derived.Test.YtbcofimmfbmkoaaDoorWordsQ
namespace Go.Proofs.YtbcofimmfbmkoaaDoor
open Go.RowKit Go.Shelf Words3

theorem results_tmp_cell {fn : Func} {P : Program} {p u : Tmp} {ty : TypeId} (h : fn.results = #[.tmp u, .cell p ty]) (tmps : Array Value) (w : World) (g : Nat) (t : TypeId) (cs : Array Value) (fr : Nat × Nat) (d : TypeDesc)
    (hp : tmps.getD p undef = .pointer (some ⟨g, 0, none⟩)) (hg : w.heap[g]? = some (.cells cs t fr))
    (hu : P.underlying ty = some d) (hd : (match d with | .struct _ | .array _ _ => true | _ => false) = true) (hi : (P.info? ty).map (·.size) = some cs.size) :
    (results fn tmps).run P w = .ok (.tuple #[tmps.getD u undef, .agg cs]) w := by
  have hp' : tmps[p]?.getD undef = .pointer (some ⟨g, 0, none⟩) := by simpa using hp
  simp [results, h, hp', asAddr, Result.andThen, run_loadVar_row w g t ty cs fr d hg hu hd hi]
theorem store2 {W : World} {b t : Nat} {x0 y0 x y : Value} (h : W.heap[b]? = some (.cells #[x0, y0] t (0, 0))) : ((W.setCell ⟨b, 0, none⟩ x).setCell ⟨b, 1, none⟩ y).heap[b]? = some (.cells #[x, y] t (0, 0)) :=
  Lib.heap_setCell_same (i := 1) (Lib.heap_setCell_same (i := 0) h x) y
/-- The rows from a place on, behind those that are there. -/
def RR (s : ByteArray) (f : Nat) (acc : List Rw) : RowsR := if f ≤ s.size then rowsGo f (linesF (s.data.toList.drop f)) acc else ⟨acc, 0, 0⟩
def lineAt (s : ByteArray) (f j : Nat) : List UInt8 := (s.data.toList.drop f).take (j - f)
theorem lineAt_length (s : ByteArray) (f j : Nat) (h2 : j ≤ s.size) : (lineAt s f j).length = j - f := by
  unfold lineAt; rw [List.length_take, List.length_drop, bytes_len]; omega
theorem linesF_at (s : ByteArray) (f j : Nat) (h1 : f ≤ j) (h2 : j ≤ s.size) (hi : idx 10 (s.data.toList.drop f) = j - f) :
    linesF (s.data.toList.drop f) = lineAt s f j :: (if j < s.size then linesF (s.data.toList.drop (j + 1)) else []) := by
  have hl : (s.data.toList.drop f).length = s.size - f := by rw [List.length_drop, bytes_len]
  unfold linesF
  rw [linesGo_z, hi, hl, List.drop_drop, show f + (j - f + 1) = j + 1 by omega]
  by_cases h3 : j < s.size
  · rw [if_pos (by omega), if_pos h3, linesGo_fuel _ ((s.data.toList.drop (j + 1)).length + 1) _ (by rw [List.length_drop, bytes_len]; omega) (by omega)]
    rfl
  · rw [if_neg (by omega), if_neg h3]
    unfold lineAt
    rw [List.take_of_length_le (by rw [hl]; omega)]
theorem RR_long (s : ByteArray) (f j : Nat) (acc : List Rw) (h1 : f ≤ j) (h2 : j ≤ s.size) (hi : idx 10 (s.data.toList.drop f) = j - f) (h : 1000 < j - f) : RR s f acc = ⟨[], 4, f⟩ := by
  unfold RR
  rw [if_pos (by omega), linesF_at s f j h1 h2 hi]
  show (if 1000 < (lineAt s f j).length then _ else _) = _
  rw [lineAt_length s f j h2, if_pos h]
theorem RR_bad (s : ByteArray) (f j p : Nat) (acc : List Rw) (h1 : f ≤ j) (h2 : j ≤ s.size) (hi : idx 10 (s.data.toList.drop f) = j - f) (h : ¬ 1000 < j - f) (hp : (rowF (lineAt s f j)).2 = some p) : RR s f acc = ⟨[], 3, f + p⟩ := by
  unfold RR
  rw [if_pos (by omega), linesF_at s f j h1 h2 hi]
  show (if 1000 < (lineAt s f j).length then _ else _) = _
  rw [lineAt_length s f j h2, if_neg h, hp]
theorem RR_next (s : ByteArray) (f j : Nat) (acc : List Rw) (h1 : f ≤ j) (h2 : j ≤ s.size) (hi : idx 10 (s.data.toList.drop f) = j - f) (h : ¬ 1000 < j - f) (hp : (rowF (lineAt s f j)).2 = none) : RR s f acc = RR s (j + 1) (addRow f (rowF (lineAt s f j)).1 acc) := by
  have hl := lineAt_length s f j h2
  conv => lhs; unfold RR
  rw [if_pos (by omega), linesF_at s f j h1 h2 hi, rowsGo_cons _ _ _ _ (by rw [hl]; exact h) hp, hl, show f + (j - f) + 1 = j + 1 by omega]
  unfold RR
  by_cases h3 : j < s.size
  · rw [if_pos h3, if_pos (by omega)]
  · rw [if_neg h3, if_neg (by omega)]; rfl
theorem RR_end (s : ByteArray) (f : Nat) (acc : List Rw) (h : s.size < f) : RR s f acc = ⟨acc, 0, 0⟩ := by
  unfold RR; rw [if_neg (by omega)]
theorem rowF_at (l : List UInt8) : ∀ w ∈ (rowF l).1, w.at_ ≤ l.length := by
  intro w hw
  have := wordsGo_at (l.length + 1) 0 l _ (rowOf_mem _ w hw)
  simpa using this
theorem rowOf_length : ∀ l : List (Wd × Bool), (rowOf l).1.length ≤ l.length
  | [] => Nat.zero_le _
  | (w, true) :: l => by have := rowOf_length l; simp only [rowOf, List.length_cons]; omega
  | (w, false) :: l => Nat.zero_le _
theorem rowF_length (l : List UInt8) : (rowF l).1.length ≤ l.length := Nat.le_trans (rowOf_length _) (wordsGo_length _ _ _)
theorem rowF_nn (l : List UInt8) : ∀ w ∈ (rowF l).1, 0 ≤ w.at_ := by
  intro w hw
  exact wordsGo_nn (l.length + 1) 0 l _ (rowOf_mem _ w hw)
theorem rowF_place : ∀ (l : List (Wd × Bool)) (p : Nat), (rowOf l).2 = some p → ∃ w, (w, false) ∈ l ∧ w.at_.toNat = p
  | [], p, h => by cases h
  | (w, true) :: l, p, h => by
    obtain ⟨v, h1, h2⟩ := rowF_place l p h
    exact ⟨v, List.mem_cons_of_mem _ h1, h2⟩
  | (w, false) :: l, p, h => ⟨w, List.mem_cons_self, Option.some.inj h⟩
theorem rowF_bad {l : List UInt8} {p : Nat} (h : (rowF l).2 = some p) : p ≤ l.length := by
  obtain ⟨w, h1, h2⟩ := rowF_place _ p h
  have := wordsGo_at (l.length + 1) 0 l _ h1
  rw [← h2]; dsimp only at this; omega
/-- The first k words moved by an offset. -/
def shiftTo (f k : Nat) (ws : List Wd) : List Wd := (ws.take k).map (shiftW f) ++ ws.drop k
theorem shiftTo_zero (f : Nat) (ws : List Wd) : shiftTo f 0 ws = ws := by unfold shiftTo; simp
theorem shiftTo_all (f : Nat) (ws : List Wd) : shiftTo f ws.length ws = ws.map (shiftW f) := by unfold shiftTo; simp
theorem shiftTo_length (f k : Nat) (ws : List Wd) : (shiftTo f k ws).length = ws.length := by
  unfold shiftTo; rw [List.length_append, List.length_map, List.length_take, List.length_drop]; omega
theorem shiftTo_get (f k : Nat) (ws : List Wd) (h : k < ws.length) : (shiftTo f k ws)[k]? = some ws[k] := by
  unfold shiftTo
  rw [List.getElem?_append_right (by simp; omega), List.drop_eq_getElem_cons h]
  simp [Nat.min_eq_left (Nat.le_of_lt h)]
theorem wcells_app (a b : List Wd) : wcells (a ++ b) = wcells a ++ wcells b := by simp [wcells]
theorem wcells_put (a b : List Wd) (x : Wd) (m : Int) : (wcells (a ++ x :: b)).set (a.length * 3) (.int .i64 m) = wcells (a ++ ⟨m, x.key, x.text⟩ :: b) := by
  rw [wcells_app, wcells_app, List.set_append_right (h := by rw [wcells_length]; exact Nat.le_refl _), wcells_length, Nat.sub_self]; rfl
theorem shiftTo_put (f k : Nat) (ws : List Wd) (h : k < ws.length) : (wcells (shiftTo f k ws)).set (k * 3) (.int .i64 (ws[k].at_ + (f : Int))) = wcells (shiftTo f (k + 1) ws) := by
  have e1 : shiftTo f k ws = (ws.take k).map (shiftW f) ++ ws[k] :: ws.drop (k + 1) := by unfold shiftTo; rw [← List.drop_eq_getElem_cons h]
  have e2 : shiftTo f (k + 1) ws = (ws.take k).map (shiftW f) ++ ⟨ws[k].at_ + (f : Int), ws[k].key, ws[k].text⟩ :: ws.drop (k + 1) := by
    unfold shiftTo; rw [List.take_succ_eq_append_getElem h, List.map_append, List.append_assoc]; rfl
  have hl : ((ws.take k).map (shiftW f)).length = k := by rw [List.length_map, List.length_take]; omega
  have := wcells_put ((ws.take k).map (shiftW f)) (ws.drop (k + 1)) ws[k] (ws[k].at_ + (f : Int))
  rw [hl] at this
  rw [e1, e2, this]
theorem Ws.form {w : World} {B : Nat} {v : Value} {l : List Wd} (h : Ws w B v l) : (v = .slice none 0 0 ∧ l = []) ∨ ∃ g cap, v = .slice (some ⟨g, 0, none⟩) l.length cap ∧ B ≤ g := by
  rcases h.2 with ⟨h1, h2⟩ | ⟨g, cap, cur, h1, h2, _⟩
  · exact .inl ⟨h1, List.length_eq_zero_iff.1 h2⟩
  · exact .inr ⟨g, cap, h1, h2⟩
end Go.Proofs.YtbcofimmfbmkoaaDoor
