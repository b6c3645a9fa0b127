/- The walk of Rows, chapter 3. -/
import Derived.Test.YtbcofimmfbmkoaaDoorWordsM
namespace Go.Proofs.YtbcofimmfbmkoaaDoor
open Go.RowKit Go.Shelf Words3

attribute [local go_sem] Oper.semAt_some

theorem results_cells2 {fn : Func} {P : Program} {p q : Tmp} {ty uy : TypeId} (h : fn.results = #[.cell p ty, .cell q uy]) (tmps : Array Value) (w : World) (g g' : Nat) (v u : Value)
    (hp : tmps.getD p undef = .pointer (some ⟨g, 0, none⟩)) (hq : tmps.getD q undef = .pointer (some ⟨g', 0, none⟩)) (h1 : (loadVar ty ⟨g, 0, none⟩).run P w = .ok v w) (h2 : (loadVar uy ⟨g', 0, none⟩).run P w = .ok u w) :
    (results fn tmps).run P w = .ok (.tuple #[v, u]) w := by
  have hp' : tmps[p]?.getD undef = .pointer (some ⟨g, 0, none⟩) := by simpa using hp
  have hq' : tmps[q]?.getD undef = .pointer (some ⟨g', 0, none⟩) := by simpa using hq
  simp [results, h, hp', hq', asAddr, Result.andThen, h1, h2]
theorem load_rows {w : World} {g : Nat} {v : Value} (h : w.cell? ⟨g, 0, none⟩ = some v) : (loadVar 23 ⟨g, 0, none⟩).run Tryd.prog w = .ok v w := by
  simp [loadVar, isAgg, Sem.run_bind, run_underlying Tryd.underlying23, h, go_sem, Result.andThen]
theorem load_fault {w : World} {g : Nat} {x y : Value} (h : w.heap[g]? = some (.cells #[x, y] 26 (0, 0))) : (loadVar 26 ⟨g, 0, none⟩).run Tryd.prog w = .ok (.agg #[x, y]) w :=
  run_loadVar_row w g _ _ _ _ _ h Tryd.underlying26 rfl (by kernel_rfl)
def totL (pre : List (List UInt8)) : Nat := (pre.map fun l => l.length + 1).sum
theorem totL_snoc (pre : List (List UInt8)) (x : List UInt8) : totL (pre ++ [x]) = totL pre + x.length + 1 := by simp [totL]; omega
/-- What stands between two rounds of the outer loop; w: the world at the call's start. -/
structure OutI (L : List (List UInt8)) (w : World) (pre : List (List UInt8)) (W : World) : Prop where
  acc : ∃ (acc : List Rw) (v : Value), (∀ ls, L = pre ++ ls → rowsGo 0 L [] = rowsGo (totL pre) ls acc) ∧ acc.length ≤ totL pre ∧ W.heap[w.heap.size + 2]? = some (.cells #[v] 23 (0, 0)) ∧ Rs W (w.heap.size + 7) v acc
  below : Below w.heap.size w W
  res : W.heap[w.heap.size]? = some (.cells #[.slice none 0 0] 23 (0, 0))
  fault : W.heap[w.heap.size + 1]? = some (.cells #[.int .i64 0, .int .i64 0] 26 (0, 0))
  place : W.heap[w.heap.size + 3]? = some (.cells #[.int .i64 (totL pre : Int)] 3 (0, 0))
  sep : IsL (w.heap.size + 5) (w.heap.size + 6) W
  size : w.heap.size + 7 ≤ W.heap.size
/-- Behind a return out of the loop. -/
structure OutX (r : RowsR) (w : World) (W : World) : Prop where
  below : Below w.heap.size w W
  none_ : r.rows = []
  res : W.heap[w.heap.size]? = some (.cells #[.slice none 0 0] 23 (0, 0))
  fault : W.heap[w.heap.size + 1]? = some (.cells #[.int .i64 (r.err : Int), .int .i64 (r.place : Int)] 26 (0, 0))
  size : w.heap.size + 7 ≤ W.heap.size
theorem heap_keep {W W' : World} {r : Option Nat} {b : Nat} {o : Obj} (hg : W.grownBy W' r) (h : W.heap[b]? = some o) (hr : some b ≠ r) : W'.heap[b]? = some o :=
  (hg.block b (Array.getElem?_eq_some_iff.1 h).1 hr).trans h
theorem OutI.turn {L : List (List UInt8)} {w W W' : World} {pre : List (List UInt8)} {r : Option Nat} (h : OutI L w pre W) (hg : W.grownBy W' r)
    (hr : ∀ k, r = some k → k = w.heap.size + 4 ∨ (w.heap.size + 7 ≤ k ∧ ∃ o : Obj, W.heap[k]? = some o ∧ o.isCells = false)) : OutI L w pre W' := by
  obtain ⟨acc, v, h1, h2, h3, h4⟩ := h.acc
  have ne : ∀ j, j ≠ w.heap.size + 4 → j < w.heap.size + 7 → some j ≠ r := fun j n1 n2 e => by
    rcases hr j e.symm with rfl | ⟨h5, _⟩
    · exact n1 rfl
    · omega
  refine ⟨⟨acc, v, h1, h2, heap_keep hg h3 (ne _ (by omega) (by omega)), h4.off hg fun k hk => ?_⟩, h.below.grown hg (by have := h.size; omega) (fun j e => ?_), heap_keep hg h.res (ne _ (by omega) (by omega)), heap_keep hg h.fault (ne _ (by omega) (by omega)),
    heap_keep hg h.place (ne _ (by omega) (by omega)), ⟨heap_keep hg h.sep.1 (ne _ (by omega) (by omega)), heap_keep hg h.sep.2 (ne _ (by omega) (by omega))⟩, Nat.le_trans h.size hg.size⟩
  · rcases hr k hk with rfl | ⟨h5, o, ho, hn⟩
    · exact .inl (by omega)
    · exact .inr ⟨o, ho, (fun cs e => by rw [e] at hn; cases hn), fun cs e => by rw [e] at hn; cases hn⟩
  · rcases hr j e with rfl | ⟨h5, _⟩ <;> omega
theorem OutX.turn {r : RowsR} {w W W' : World} {q : Option Nat} (h : OutX r w W) (hg : W.grownBy W' q) (hr : ∀ k, q = some k → w.heap.size + 4 ≤ k) : OutX r w W' := by
  refine ⟨h.below.grown hg (by have := h.size; omega) (fun j e => by have := hr j e; omega), h.none_, heap_keep hg h.res (fun e => by have := hr _ e.symm; omega), heap_keep hg h.fault (fun e => by have := hr _ e.symm; omega), Nat.le_trans h.size hg.size⟩
theorem outI_mine (L : List (List UInt8)) (w : World) (B : Nat) (hB : w.heap.size + 7 ≤ B) : MineG (TurnL (w.heap.size + 4)) B (OutI L w) := by
  refine ⟨fun s A A' h hT => ?_, fun s A A' k h hg hk ho => h.turn hg fun j e => ?_⟩
  · rcases hT with hg | ⟨hg, _⟩
    · exact h.turn hg fun j e => by cases e
    · exact h.turn hg fun j e => by cases e; exact .inl rfl
  · cases e; exact .inr ⟨by omega, ho⟩
theorem outX_mine {β : Type} (r : RowsR) (w : World) (B : Nat) (hB : w.heap.size + 7 ≤ B) (p : Prop) : MineG (TurnL (w.heap.size + 4)) B (fun (_ : β) W => p ∧ OutX r w W) := by
  refine ⟨fun s A A' h hT => ⟨h.1, ?_⟩, fun s A A' k h hg hk ho => ⟨h.1, h.2.turn hg fun j e => ?_⟩⟩
  · rcases hT with hg | ⟨hg, _⟩
    · exact h.2.turn hg fun j e => by cases e
    · exact h.2.turn hg fun j e => by cases e; omega
  · cases e; omega
theorem keepL_trans {c : Nat} {A B C : World} (h : KeepL c A B) (k : KeepL c B C) : KeepL c A C := fun v t f h1 => k v t f (h v t f h1)
theorem heap_al {W : World} {k : Nat} {o : Obj} (h : W.heap[k]? = some o) (o' : Obj) : (W.alloc o').heap[k]? = some o := (Below.heap_alloc _ _ _ (Array.getElem?_eq_some_iff.1 h).1).trans h
theorem heap_an (W : World) (o : Obj) {n : Nat} (h : W.heap.size = n) : (W.alloc o).heap[n]? = some o := by rw [← h]; exact World.alloc_heap_new W o
theorem size_al (W : World) (o : Obj) {n : Nat} (h : W.heap.size = n) : (W.alloc o).heap.size = n + 1 := by rw [← h]; exact World.size_alloc ..
theorem alloc7 (w : World) (o0 o1 o2 o3 o4 o5 o6 : Obj) : ∃ W, (((((((w.alloc o0).alloc o1).alloc o2).alloc o3).alloc o4).alloc o5).alloc o6) = W ∧ W.heap[w.heap.size]? = some o0 ∧ W.heap[w.heap.size + 1]? = some o1 ∧ W.heap[w.heap.size + 2]? = some o2 ∧ W.heap[w.heap.size + 3]? = some o3 ∧ W.heap[w.heap.size + 4]? = some o4 ∧ W.heap[w.heap.size + 5]? = some o5 ∧ W.heap[w.heap.size + 6]? = some o6 ∧ W.heap.size = w.heap.size + 7 ∧ Below w.heap.size w W := by
  have s1 := size_al w o0 rfl
  have s2 := size_al _ o1 s1
  have s3 := size_al _ o2 s2
  have s4 := size_al _ o3 s3
  have s5 := size_al _ o4 s4
  have s6 := size_al _ o5 s5
  have s7 := size_al _ o6 s6
  exact ⟨_, rfl, heap_al (heap_al (heap_al (heap_al (heap_al (heap_al (heap_an w o0 rfl) _) _) _) _) _) _, heap_al (heap_al (heap_al (heap_al (heap_al (heap_an _ o1 s1) _) _) _) _) _, heap_al (heap_al (heap_al (heap_al (heap_an _ o2 s2) _) _) _) _,
    heap_al (heap_al (heap_al (heap_an _ o3 s3) _) _) _, heap_al (heap_al (heap_an _ o4 s4) _) _, heap_al (heap_an _ o5 s5) _, heap_an _ o6 s6, s7,
    (((((((Below.refl _ w).alloc (Nat.le_refl _) _).alloc (by omega) _).alloc (by omega) _).alloc (by omega) _).alloc (by omega) _).alloc (by omega) _).alloc (by omega) _⟩
theorem keepL_put (c : Nat) (W : World) (l : Nat) (o o' : Obj) (h : W.heap[l]? = some o) (hn : o.isCells = false) : KeepL c W (W.putObj l o') := fun v t f hc =>
  (World.putObj_heap_other (fun e => by rw [← e] at h; rw [hc] at h; cases h; cases hn)).trans hc
/-- The two results are set. -/
theorem fin3 {w W W3 : World} {v x y v0 x0 y0 : Value} (hb : Below w.heap.size w W) (hs : w.heap.size + 7 ≤ W.heap.size) (h0 : W.heap[w.heap.size]? = some (.cells #[v0] 23 (0, 0))) (h1 : W.heap[w.heap.size + 1]? = some (.cells #[x0, y0] 26 (0, 0)))
    (e : W3 = ((W.setCell ⟨w.heap.size, 0, none⟩ v).setCell ⟨w.heap.size + 1, 0, none⟩ x).setCell ⟨w.heap.size + 1, 1, none⟩ y) :
    Below w.heap.size w W3 ∧ W3.heap[w.heap.size]? = some (.cells #[v] 23 (0, 0)) ∧ W3.heap[w.heap.size + 1]? = some (.cells #[x, y] 26 (0, 0)) ∧ w.heap.size + 7 ≤ W3.heap.size ∧ KeepsFrom (w.heap.size + 7) W W3 ∧
      ∀ u rs, Rs W (w.heap.size + 7) u rs → Rs W3 (w.heap.size + 7) u rs := by
  have g1 := grown_cell W w.heap.size 0 v
  have g2 := grown_cell (W.setCell ⟨w.heap.size, 0, none⟩ v) (w.heap.size + 1) 0 x
  have g3 := grown_cell ((W.setCell ⟨w.heap.size, 0, none⟩ v).setCell ⟨w.heap.size + 1, 0, none⟩ x) (w.heap.size + 1) 1 y
  have e0 : (W.setCell ⟨w.heap.size, 0, none⟩ v).heap[w.heap.size]? = some (.cells #[v] 23 (0, 0)) := Lib.heap_setCell_same (i := 0) h0 v
  have e1 := heap_keep g1 h1 (by simp)
  have e2 : ((W.setCell ⟨w.heap.size, 0, none⟩ v).setCell ⟨w.heap.size + 1, 0, none⟩ x).heap[w.heap.size + 1]? = some (.cells #[x, y0] 26 (0, 0)) := Lib.heap_setCell_same (i := 0) e1 x
  have e3 : (((W.setCell ⟨w.heap.size, 0, none⟩ v).setCell ⟨w.heap.size + 1, 0, none⟩ x).setCell ⟨w.heap.size + 1, 1, none⟩ y).heap[w.heap.size + 1]? = some (.cells #[x, y] 26 (0, 0)) := Lib.heap_setCell_same (i := 1) e2 y
  have s1 := g1.size
  have s2 := g2.size
  have s3 := g3.size
  subst e
  refine ⟨((hb.grown g1 (by omega) (fun j e => by cases e; omega)).grown g2 (by omega) (fun j e => by cases e; omega)).grown g3 (by omega) (fun j e => by cases e; omega), heap_keep g3 (heap_keep g2 e0 (by simp)) (by simp), e3, by omega,
    ((KeepsFrom.of_grownBy g1 (fun j e => by cases e; omega)).trans (KeepsFrom.of_grownBy g2 (fun j e => by cases e; omega))).trans (KeepsFrom.of_grownBy g3 (fun j e => by cases e; omega)), fun u rs h => ?_⟩
  exact ((h.off g1 (fun k e => by cases e; exact .inl (by omega))).off g2 (fun k e => by cases e; exact .inl (by omega))).off g3 (fun k e => by cases e; exact .inl (by omega))
theorem keepsFrom_drew {B : Nat} {W W' : World} (h : KeepsFrom B W W') : KeepsFrom B W W'.drew := ⟨h.size, h.same⟩
/-- What stands between two rounds of the inner loop; W1: the world at the outer round's start. -/
structure InI (n : Nat) (W1 : World) (pre : List (Wd × Bool)) (W : World) : Prop where
  all : ∀ y ∈ pre, y.2 = true
  below : Below W1.heap.size W1 W
  row : ∃ v, W.heap[W1.heap.size]? = some (.cells #[.int .i64 (n : Int), v] 39 (0, 0)) ∧ Ws W W1.heap.size v (pre.map fun y => shiftW n y.1)
  size : W1.heap.size + 2 ≤ W.heap.size
theorem InI.turn {n : Nat} {W1 W W' : World} {pre : List (Wd × Bool)} {r : Option Nat} (h : InI n W1 pre W) (hg : W.grownBy W' r)
    (hr : ∀ k, r = some k → W1.heap.size + 2 ≤ k ∧ ∃ o : Obj, W.heap[k]? = some o ∧ ∀ cs : Array Value, o ≠ .cells cs 46 (0, 0)) : InI n W1 pre W' := by
  obtain ⟨v, h1, h2⟩ := h.row
  refine ⟨h.all, h.below.grown hg (by have := h.size; omega) (fun j e => by have := (hr j e).1; omega), ⟨v, heap_keep hg h1 (fun e => by have := (hr _ e.symm).1; omega), h2.kept hg fun k hk => .inr (hr k hk).2⟩, Nat.le_trans h.size hg.size⟩
theorem inI_mine (n : Nat) (W1 : World) (B : Nat) (hB : W1.heap.size + 2 ≤ B) : MineG (TurnS (W1.heap.size + 2)) B (InI n W1) := by
  refine ⟨fun s A A' h hT => ?_, fun s A A' k h hg hk ho => h.turn hg fun j e => ?_⟩
  · rcases hT with hg | ⟨b, t, k, hb, hs, hg⟩
    · exact h.turn hg fun j e => by cases e
    · exact h.turn hg fun j e => by cases e; exact ⟨hb, _, hs, fun cs e => by cases e⟩
  · cases e
    obtain ⟨o, h1, h2⟩ := ho
    exact ⟨by omega, o, h1, fun cs e => by rw [e] at h2; cases h2⟩
theorem inX_mine {β : Type} (r : RowsR) (w W1 : World) (B : Nat) (hW : w.heap.size + 7 ≤ W1.heap.size) (hB : W1.heap.size + 2 ≤ B) (p : Prop) : MineG (TurnS (W1.heap.size + 2)) B (fun (_ : β) W => p ∧ OutX r w W ∧ KeepsFrom (w.heap.size + 7) W1 W) := by
  have key : ∀ {A A' : World} {q : Option Nat}, OutX r w A ∧ KeepsFrom (w.heap.size + 7) W1 A → A.grownBy A' q → (∀ k, q = some k → W1.heap.size ≤ k) → OutX r w A' ∧ KeepsFrom (w.heap.size + 7) W1 A' := fun {A A' q} h hg hq =>
    ⟨h.1.turn hg fun k hk => by have := hq k hk; omega, Nat.le_trans h.2.size hg.size, fun k o hk ho hn => heap_keep hg (h.2.same k o hk ho hn) fun e => by
      have := hq k e.symm
      have := (Array.getElem?_eq_some_iff.1 ho).1
      omega⟩
  refine ⟨fun s A A' h hT => ⟨h.1, ?_⟩, fun s A A' k h hg hk ho => ⟨h.1, key h.2 hg fun j e => ?_⟩⟩
  · rcases hT with hg | ⟨b, t, k, hb, hs, hg⟩
    · exact key h.2 hg fun j e => by cases e
    · exact key h.2 hg fun j e => by cases e; omega
  · cases e; omega
theorem keepS_trans {c : Nat} {A B C : World} (h : KeepS c A B) (k : KeepS c B C) : KeepS c A C := fun b s j hb h1 => k b s j hb (h b s j hb h1)
theorem keepS_put (c : Nat) (W : World) (l : Nat) (o o' : Obj) (h : W.heap[l]? = some o) (hn : o.isCells = false) : KeepS c W (W.putObj l o') := fun b s k _ hs =>
  (World.putObj_heap_other (fun e => by rw [← e] at h; unfold Scn at hs; rw [hs] at h; cases h; cases hn)).trans hs
theorem wordsGo_at : ∀ (f n : Nat) (s : List UInt8), ∀ y ∈ wordsGo f n s, y.1.at_ ≤ n + s.length
  | 0, _, _ => fun y h => by cases h
  | f + 1, n, [] => fun y h => by cases h
  | f + 1, n, c :: r => by
    intro y hy
    simp only [wordsGo] at hy
    split at hy
    · have := wordsGo_at f (n + 1) r y hy
      rw [List.length_cons]; omega
    · split at hy
      · cases hy
      · split at hy
        · rename_i h3
          obtain ⟨k, h4, h5, h6, _⟩ := wordF_rest _ h3
          rcases List.mem_cons.1 hy with rfl | hy
          · show (n : Int) ≤ _; omega
          · have := wordsGo_at f _ _ y hy
            rw [h4, List.length_drop] at this
            omega
        · rcases List.mem_cons.1 hy with rfl | hy
          · show (n : Int) ≤ _; omega
          · cases hy
theorem wordsGo_nn : ∀ (f n : Nat) (s : List UInt8), ∀ y ∈ wordsGo f n s, 0 ≤ y.1.at_
  | 0, _, _ => fun y h => by cases h
  | f + 1, n, [] => fun y h => by cases h
  | f + 1, n, c :: r => by
    intro y hy
    simp only [wordsGo] at hy
    split at hy
    · exact wordsGo_nn f (n + 1) r y hy
    · split at hy
      · cases hy
      · split at hy
        · rcases List.mem_cons.1 hy with rfl | hy
          · show (0 : Int) ≤ (n : Int); omega
          · exact wordsGo_nn f _ _ y hy
        · rcases List.mem_cons.1 hy with rfl | hy
          · show (0 : Int) ≤ (n : Int); omega
          · cases hy
/-- A word has its block; the words that lie already lie elsewhere. -/
def AxW (n : Nat) (W1 : World) (act : Wd × Bool → Nat → Act) (x : Wd × Bool) (a' : Act) (W : World) : Prop :=
  ∃ bw, a' = act x bw ∧ W1.heap.size + 2 ≤ bw ∧ W.heap[bw]? = some (.cells #[.int .i64 (x.1.at_ : Int), .string ⟨x.1.key.toArray⟩, .string ⟨x.1.text.toArray⟩] 46 (0, 0)) ∧
    ∀ v, W.heap[W1.heap.size]? = some (.cells #[.int .i64 (n : Int), v] 39 (0, 0)) → v.ownBlock ≠ some bw
theorem axW_put (n : Nat) (W1 : World) (act : Wd × Bool → Nat → Act) (x : Wd × Bool) (a' : Act) {W W' : World} {k : Nat} (h : AxW n W1 act x a' W) (hg : W.grownBy W' (some k)) (hk : W1.heap.size + 2 ≤ k) (ho : ∃ o : Obj, W.heap[k]? = some o ∧ o.isCells = false) : AxW n W1 act x a' W' := by
  obtain ⟨bw, h1, h2, h3, h4⟩ := h
  obtain ⟨o, h5, h6⟩ := ho
  have hb := (Array.getElem?_eq_some_iff.1 h3).1
  refine ⟨bw, h1, h2, heap_keep hg h3 (fun e => ?_), fun v hv => h4 v ?_⟩
  · obtain rfl := Option.some.inj e
    rw [h3] at h5; cases h5; cases h6
  · rw [← hg.block W1.heap.size (by omega) (fun e => by have := Option.some.inj e; omega)]; exact hv
theorem keepsFrom_mono {B B' : Nat} {W W' : World} (h : KeepsFrom B W W') (hB : B ≤ B') : KeepsFrom B' W W' := ⟨h.size, fun k o hk => h.same k o (Nat.le_trans hB hk)⟩
theorem keepsFrom_below {B : Nat} {W W' : World} (h : Below W.heap.size W W') : KeepsFrom B W W' := ⟨h.size, fun k _o _ ho _ => (h.block k (Array.getElem?_eq_some_iff.1 ho).1).trans ho⟩
/-- What the call has made before the loop lies as it lay, but for the rows and the place. -/
def Same7 (w W V : World) : Prop := Below w.heap.size w V ∧ W.heap.size ≤ V.heap.size ∧ ∀ k, k < w.heap.size + 7 → k ≠ w.heap.size + 2 → k ≠ w.heap.size + 3 → V.heap[k]? = W.heap[k]?
theorem same7_grown {w W V V' : World} {r : Option Nat} (hs : w.heap.size + 7 ≤ W.heap.size) (h : Same7 w W V) (hg : V.grownBy V' r) (hr : ∀ k, r = some k → k = w.heap.size + 2 ∨ k = w.heap.size + 3 ∨ w.heap.size + 7 ≤ k) : Same7 w W V' := by
  obtain ⟨h1, h2, h3⟩ := h
  refine ⟨h1.grown hg (by omega) (fun j e => by have := hr j e; omega), Nat.le_trans h2 hg.size, fun k k1 k2 k3 => (hg.block k (by omega) (fun e => ?_)).trans (h3 k k1 k2 k3)⟩
  have := hr k e.symm; omega
theorem OutI.next {L : List (List UInt8)} {w W V : World} {pre : List (List UInt8)} {x : List UInt8} {acc : List Rw} {v : Value} (h : OutI L w pre W) (h1 : ∀ ls, L = (pre ++ [x]) ++ ls → rowsGo 0 L [] = rowsGo (totL (pre ++ [x])) ls acc) (h2 : acc.length ≤ totL (pre ++ [x]))
    (h3 : V.heap[w.heap.size + 2]? = some (.cells #[v] 23 (0, 0))) (h4 : Rs V (w.heap.size + 7) v acc) (h5 : V.heap[w.heap.size + 3]? = some (.cells #[.int .i64 (totL (pre ++ [x]) : Int)] 3 (0, 0))) (hs : Same7 w W V) : OutI L w (pre ++ [x]) V :=
  ⟨⟨acc, v, h1, h2, h3, h4⟩, hs.1, (hs.2.2 _ (by omega) (by omega) (by omega)).trans h.res, (hs.2.2 _ (by omega) (by omega) (by omega)).trans h.fault, h5, ⟨(hs.2.2 _ (by omega) (by omega) (by omega)).trans h.sep.1, (hs.2.2 _ (by omega) (by omega) (by omega)).trans h.sep.2⟩, Nat.le_trans h.size hs.2.1⟩
theorem keepL_same {w W V : World} (h : Same7 w W V) : KeepL (w.heap.size + 4) W V := fun v t f hc => (h.2.2 _ (by omega) (by omega) (by omega)).trans hc
theorem rowsGo_cons (n : Nat) (x : List UInt8) (ls : List (List UInt8)) (acc : List Rw) (h : ¬ 1000 < x.length) (hr : (rowF x).2 = none) : rowsGo n (x :: ls) acc = rowsGo (n + x.length + 1) ls (addRow n (rowF x).1 acc) := by
  show (if 1000 < x.length then _ else _) = _
  rw [if_neg h, hr]
theorem new_cellsN (W : World) (cs : List Value) (t : TypeId) {n : Nat} (h : W.heap.size = n) : ∀ j u, cs[j]? = some u → (W.alloc (.cells cs.toArray t)).cell? ((⟨n, 0, none⟩ : Addr).add j) = some u := by
  intro j u hj
  subst h
  rw [addr_add]
  have := World.alloc_heap_new W (.cells cs.toArray t)
  simp only [World.cell?, this]
  simpa using hj
theorem own_cells {W : World} {B e size n : Nat} {v : Value} {xs : List Value} (h : W.ownsRow B e size v n xs) : ∀ k, v.ownBlock = some k → B ≤ k ∧ ∃ cs : Array Value, W.heap[k]? = some (.cells cs e (0, 0)) := by
  intro k hk
  rcases h.2 with ⟨rfl, _⟩ | ⟨g', cap, cur, rfl, hg', hh, _⟩
  · simp [Value.ownBlock] at hk
  · simp only [Value.ownBlock, Option.some.injEq] at hk
    subst hk
    exact ⟨hg', _, hh⟩
set_option maxHeartbeats 4000000 in
set_option maxRecDepth 100000 in
theorem Rows_any (s : ByteArray) (w : World) :
    Calls Tryd.prog 12 #[.string s] w fun e w' => ∃ v, e = .returned (.tuple #[v, .agg #[.int .i64 ((rowsF s.data.toList).err : Int), .int .i64 ((rowsF s.data.toList).place : Int)]]) ∧ Rs w' (w.heap.size + 7) v (rowsF s.data.toList).rows ∧ Below w.heap.size w w' := by
  refine (callsIn_wide (n := 9)).1 ?_
  by_cases hlong : 20000 < s.size
  · have hl : (20000 : Int) < (s.size : Int) := by omega
    refine callsIn_of_wp_marks Tryd.func12 rfl trivial ?_ rfl
    simp only [Tryd.ntmps12, List.size_toArray, List.length_cons, List.length_nil, Nat.reduceAdd, Nat.reduceSub, Array.replicate_succ, Array.replicate_zero, List.push_toArray, List.append_toArray, List.nil_append, List.cons_append]
    gi_wp2_with fail
    obtain ⟨b0, b1, _, hb⟩ := alloc2 w (.cells #[.slice none 0 0] 23) (.cells #[.int .i64 4, .int .i64 20000] 26)
    have hr : rowsF s.data.toList = ⟨[], 4, 20000⟩ := by unfold rowsF; rw [if_pos (by rw [bytes_len]; exact hlong)]
    rw [hr]
    exact ⟨_, results_cells2 rfl _ _ w.heap.size (w.heap.size + 1) _ _ rfl rfl (load_rows (cell1 b0)) (load_fault b1), _, rfl, Rs.nil _ _, hb⟩
  · have hl : ¬ (20000 : Int) < (s.size : Int) := by omega
    obtain ⟨r, hr⟩ : ∃ r, r = rowsF s.data.toList := ⟨_, rfl⟩
    rw [← hr]
    refine callsIn_of_wp_marks Tryd.func12 rfl trivial ?_ rfl
    simp only [Tryd.ntmps12, List.size_toArray, List.length_cons, List.length_nil, Nat.reduceAdd, Nat.reduceSub, Array.replicate_succ, Array.replicate_zero, List.push_toArray, List.append_toArray, List.nil_append, List.cons_append]
    gi_wp2_with (refine ⟨trivial, ?_⟩; gi_at_call 34; refine (SplitSeq_any _ s ⟨#[10]⟩ _).mono ?_; rintro e w' ⟨rfl, rfl⟩)
    obtain ⟨W0, hW0, b0, b1, b2, b3, b4, b5, b6, hsz, hb0⟩ := alloc7 w (.cells #[.slice none 0 0] 23) (.cells #[.int .i64 0, .int .i64 0] 26) (.cells #[.slice none 0 0] 23) (.cells #[.int .i64 0] 3) (.cells #[.string s] 9) (.cells #[.string ⟨#[10]⟩] 9) (.cells #[.int .i64 0] 3)
    simp only [Nat.add_assoc, Nat.reduceAdd]
    rw [hW0]
    clear hW0
    obtain ⟨L, hL⟩ : ∃ L, L = linesF s.data.toList := ⟨_, rfl⟩
    have hrL : r = rowsGo 0 L [] := by rw [hr]; unfold rowsF; rw [if_neg (by rw [bytes_len]; exact hlong), hL]
    have hLs : totL L ≤ 20001 := by
      rw [hL]; unfold totL linesF
      rw [linesGo_length _ _ (by omega), bytes_len]; omega
    have hs1 : s.size ≤ 100000 := by omega
    refine rangeG (encs := lenc) (L := L) (Kp := KeepL (w.heap.size + 4)) rfl (by omega) (gf := 56) (lb := #[.pointer (some ⟨w.heap.size + 5, 0, none⟩), .pointer (some ⟨w.heap.size + 4, 0, none⟩), .pointer (some ⟨w.heap.size + 6, 0, none⟩)]) rfl trivial (enters_of Tryd.func56 (by kernel_rfl) rfl)
      (turnL_cells (w.heap.size + 4)) (fun h k => keepL_trans h k) (fun W l o o' _ h hn => keepL_put _ W l o o' h hn) (fun W1 hb => lines1_any (9 - 1) (w.heap.size + 5) (w.heap.size + 4) (w.heap.size + 6) s hs1 W1 ((hb.block _ (by omega)).trans b4) L hL) (fun _ => rfl)
      (OutI L w) (fun j _ W => j = .ret ∧ OutX r w W) (outI_mine L w _ (by omega)) (fun _ _ h => h.sep) (fun j => outX_mine r w _ (by omega) _)
      (fun W hb => ⟨⟨[], .slice none 0 0, fun ls h => by rw [h]; rfl, Nat.zero_le _, (hb.block _ (by omega)).trans b2, Rs.nil _ _⟩, hb0.trans (hb.mono (by omega)), (hb.block _ (by omega)).trans b0, (hb.block _ (by omega)).trans b1, (hb.block _ (by omega)).trans b3, ⟨(hb.block _ (by omega)).trans b5, (hb.block _ (by omega)).trans b6⟩, by rw [← hsz]; exact hb.size⟩)
      (fun x => { tmps := #[.string s, undef, .pointer (some ⟨w.heap.size, 0, none⟩), .pointer (some ⟨w.heap.size + 1, 0, none⟩), .pointer (some ⟨w.heap.size + 2, 0, none⟩), .pointer (some ⟨w.heap.size + 3, 0, none⟩), .string ⟨x.toArray⟩, undef, undef, undef, .string s, .int .i64 (s.size : Int), .bool false, undef, .string s, .func (.func 56) #[] #[.pointer (some ⟨w.heap.size + 5, 0, none⟩), .pointer (some ⟨w.heap.size + 4, 0, none⟩), .pointer (some ⟨w.heap.size + 6, 0, none⟩)], .string ⟨x.toArray⟩, undef, undef, undef, undef, undef, undef, undef, undef, undef, undef, undef, undef, undef, undef, undef, undef, undef, undef, undef, undef, undef, undef, undef, undef, undef, undef, undef, undef, undef, undef, undef, undef, undef, undef, undef, undef, undef, undef, undef, undef, undef, undef], defers := [] }) ?assign ?body ?done ?stop
    case assign =>
      intro l x W K hK
      unfold lenc
      gi_wp2_with fail
      exact hK
    case done =>
      intro D W hD h hK
      obtain ⟨acc, v, h1, h2, h3, h4⟩ := h.acc
      obtain ⟨ad, cp, rfl⟩ := h4.slice
      have d0 := cell1 h3
      have r0 := cell1 h.res
      have g0 := frozen1 h.res
      have f0 := cell2_0 h.fault
      have f1 := cell2_1 h.fault
      have g1 := frozen2 h.fault 0
      have g2 := frozen2 h.fault 1
      dsimp only
      gi_wp2_with fail
      generalize hW3 : World.setCell _ _ _ = W3
      obtain ⟨k1, k2, k3, k4, k5, k6⟩ := fin3 h.below h.size h.res h.fault hW3.symm
      have hrr := h1 [] (by simp)
      rw [show rowsGo (totL L) [] acc = ⟨acc, 0, 0⟩ from rfl, ← hrL] at hrr
      have hK3 := k5.same _ _ (by omega) hK rfl
      have hD' : D ≠ w.heap.size ∧ D ≠ w.heap.size + 1 ∧ w.heap.size ≤ D := by omega
      have hg3 := grownBy_putObj' W3 D (.deferred none)
      refine ⟨by simp, .inl ⟨_, _, rfl, run_takeDeferred hK3, ?_⟩⟩
      rw [hrr]
      exact ⟨_, results_cells2 rfl _ _ w.heap.size (w.heap.size + 1) _ _ rfl rfl (load_rows (cell1 (heap_keep hg3 k2 (by simp; omega)))) (load_fault (heap_keep hg3 k3 (by simp; omega))), _, rfl,
        (k6 _ _ h4).off hg3 (fun k e => by cases e; exact .inr ⟨_, hK3, (fun cs e => by cases e), fun cs e => by cases e⟩), k1.grown hg3 (by omega) (fun j e => by cases e; omega)⟩
    case stop =>
      rintro D j pre W hD hpre ⟨rfl, h⟩ hK
      dsimp only
      gi_wp2_with fail
      have hg3 := grownBy_putObj' W D (.deferred none)
      have h' := h.turn hg3 (fun k e => by cases e; omega)
      refine ⟨by simp, .inl ⟨_, _, rfl, run_takeDeferred hK, ?_⟩⟩
      exact ⟨_, results_cells2 rfl _ _ w.heap.size (w.heap.size + 1) _ _ rfl rfl (load_rows (cell1 h'.res)) (load_fault h'.fault), _, rfl, by rw [h'.none_]; exact Rs.nil _ _, h'.below⟩
    case body =>
      rintro l pre x post W hx hl ⟨rl, hrl⟩ h
      dsimp only
      by_cases hlong' : 1000 < x.length
      · have hl1 : (1000 : Int) < (x.length : Int) := by omega
        have r0 := cell1 h.res
        have g0 := frozen1 h.res
        have f0 := cell2_0 h.fault
        have f1 := cell2_1 h.fault
        have g1 := frozen2 h.fault 0
        have g2 := frozen2 h.fault 1
        have p0 := cell1 h.place
        have hz : (⟨x.toArray⟩ : ByteArray).size = x.length := rfl
        gi_wp2_with fail
        have hrr : r = ⟨[], 4, totL pre⟩ := by
          obtain ⟨acc, v, h1, _⟩ := h.acc
          rw [hrL, h1 _ hx]
          show (if 1000 < x.length then _ else _) = _
          rw [if_pos hlong']
        gi_region
        all_goals
          generalize hW3 : World.setCell _ _ _ = W3
          obtain ⟨k1, k2, k3, k4, k5, k6⟩ := fin3 h.below h.size h.res h.fault hW3.symm
          gi_wp2_with fail
          rw [hrr]
          exact ⟨keepsFrom_drew (by rw [hsz]; exact k5), rfl, (Below.drew k1), rfl, k2, k3, k4⟩
      · have hl1 : ¬ (1000 : Int) < (x.length : Int) := by omega
        have hz : (⟨x.toArray⟩ : ByteArray).size = x.length := rfl
        have p0 := cell1 h.place
        gi_wp2_with (refine ⟨trivial, ?_⟩; gi_at_call 35; refine (CallsIn.inRound l (words_any _ ⟨x.toArray⟩ _)).mono ?_; rintro e W2 ⟨rfl, rfl⟩)
        obtain ⟨u0, u1, usz, ub⟩ := alloc2 W (.cells #[.int .i64 (totL pre : Int), .slice none 0 0] 39) (.cells #[.string ⟨x.toArray⟩] 9)
        have hrl2 := heap_al (heap_al hrl (.cells #[.int .i64 (totL pre : Int), .slice none 0 0] 39)) (.cells #[.string ⟨x.toArray⟩] 9)
        generalize (W.alloc (.cells #[.int .i64 (totL pre : Int), .slice none 0 0] 39)).alloc (.cells #[.string ⟨x.toArray⟩] 9) = W2 at *
        obtain ⟨L2, hL2⟩ : ∃ L2, L2 = wordsF x := ⟨_, rfl⟩
        have hLn : L2.length ≤ x.length := by rw [hL2]; exact wordsGo_length _ _ _
        have hLa : ∀ y ∈ L2, y.1.at_ ≤ x.length := by rw [hL2]; intro y hy; have := wordsGo_at _ _ _ y hy; omega
        have hLz : ∀ y ∈ L2, 0 ≤ y.1.at_ := by rw [hL2]; intro y hy; exact wordsGo_nn _ _ _ y hy
        have htp : totL pre + x.length + 1 ≤ 20001 := by
          have := hLs
          rw [hx] at this
          have e : totL (pre ++ x :: post) = totL pre + (x.length + 1) + totL post := by simp [totL]; omega
          omega
        have hWs := h.size
        refine rangeGN (encs := wenc) (L := L2) (T := TurnS (W.heap.size + 2)) (K := fun _ => True) (Kp := KeepS (W.heap.size + 2)) (F := Fence.wide.inRound l) rfl hrl2 (by omega) (gf := 47) (lb := #[.pointer (some ⟨W.heap.size + 1, 0, none⟩)]) rfl trivial (enters_of Tryd.func47 (by kernel_rfl) rfl)
          (turnS_cells (W.heap.size + 2)) (fun h k => keepS_trans h k) (fun W l o o' _ h hn => keepS_put _ W l o o' h hn) (fun V hb => words1_any _ _ ⟨x.toArray⟩ (by omega) (W.heap.size + 2) V (by have := hb.size; omega) ((hb.block _ (by omega)).trans u1) L2 hL2) (fun _ => rfl)
          (InI (totL pre) W) (fun j _ V => j = .ret ∧ OutX r w V ∧ KeepsFrom (w.heap.size + 7) W V) (inI_mine _ W _ (by omega)) (fun _ _ _ => trivial) (fun j => inX_mine r w W _ hWs (by omega) _)
          (fun V hb => ⟨fun _ h => by simp at h, ub.trans (hb.mono (by omega)), ⟨_, (hb.block _ (by omega)).trans u0, Ws.nil _ _⟩, by have := hb.size; omega⟩)
          (fun y => AxW (totL pre) W (fun y bw => { tmps := #[.string s, undef, .pointer (some ⟨w.heap.size, 0, none⟩), .pointer (some ⟨w.heap.size + 1, 0, none⟩), .pointer (some ⟨w.heap.size + 2, 0, none⟩), .pointer (some ⟨w.heap.size + 3, 0, none⟩), .string ⟨x.toArray⟩, .pointer (some ⟨W.heap.size, 0, none⟩), .pointer (some ⟨bw, 0, none⟩), .bool y.2, .string s, .int .i64 (s.size : Int), .bool false, undef, .string s, .func (.func 56) #[] #[.pointer (some ⟨w.heap.size + 5, 0, none⟩), .pointer (some ⟨w.heap.size + 4, 0, none⟩), .pointer (some ⟨w.heap.size + 6, 0, none⟩)], .string ⟨x.toArray⟩, .string ⟨x.toArray⟩, .int .i64 (x.length : Int), .bool false, undef, undef, .int .i64 (totL pre : Int), .agg #[.int .i64 (totL pre : Int), .slice none 0 0], .string ⟨x.toArray⟩, .func (.func 47) #[] #[.pointer (some ⟨W.heap.size + 1, 0, none⟩)], wordVal y.1, .bool y.2, undef, undef, undef, undef, undef, undef, undef, undef, undef, undef, undef, undef, undef, undef, undef, undef, undef, undef, undef, undef, undef, undef, undef, undef, undef, undef, undef, undef, undef, undef, undef], defers := [] }) y) (fun y a₁ V V' k hA hg hk ho => ?ax) ?assign ?body ?done ?stop
        case ax => exact axW_put _ _ _ _ _ hA hg (by omega) ho
        case assign =>
          intro l2 pre2 y V K hI hV hK
          unfold wenc wordVal
          gi_wp2_with fail
          have hgA := World.grownBy_alloc V (.cells #[.int .i64 (y.1.at_ : Int), .string ⟨y.1.key.toArray⟩, .string ⟨y.1.text.toArray⟩] 46) none
          refine hK _ _ (KeepsFrom.of_grownBy hgA (fun j e => by cases e)) (keepS_grown hgA (fun j e => by cases e)) (hI.turn hgA (fun j e => by cases e)) ⟨V.heap.size, rfl, hI.size, World.alloc_heap_new V _, fun v hv e => ?_⟩
          obtain ⟨v', h1, h2⟩ := hI.row
          have h3 := heap_keep hgA h1 (by simp)
          rw [hv] at h3
          obtain rfl : v = v' := by cases h3; rfl
          rcases h2.2 with ⟨rfl, _⟩ | ⟨g', cap, cur, rfl, hg', hh, _⟩
          · simp [Value.ownBlock] at e
          · simp only [Value.ownBlock, Option.some.injEq] at e
            have := (Array.getElem?_eq_some_iff.1 hh).1
            omega
        case done =>
          intro V hI
          obtain ⟨v, v1, v2⟩ := hI.row
          obtain ⟨ad, cp, rfl⟩ := v2.slice
          have c0 := cell2_0 v1
          have c1 := cell2_1 v1
          obtain ⟨acc, vo, h1, h2, h3, h4⟩ := h.acc
          obtain ⟨ad4, cp4, rfl⟩ := h4.slice
          have hrow : rowF x = (L2.map (·.1), none) := by
            unfold rowF
            rw [← hL2]
            have := rowOf_app L2 [] hI.all
            rw [List.append_nil] at this
            rw [this]; simp [rowOf]
          have hnx : ∀ ls, L = (pre ++ [x]) ++ ls → rowsGo 0 L [] = rowsGo (totL (pre ++ [x])) ls (addRow (totL pre) (L2.map (·.1)) acc) := fun ls e => by
            rw [h1 (x :: ls) (by rw [e]; simp), rowsGo_cons _ _ _ _ hlong' (by rw [hrow]), totL_snoc, hrow]
          have hVs := hI.size
          have hsV : Same7 w W V := ⟨h.below.trans (hI.below.mono (by omega)), by omega, fun k k1 _ _ => hI.below.block k (by omega)⟩
          have hkV : KeepsFrom W0.heap.size W V := keepsFrom_below hI.below
          have o3 := (hI.below.block _ (by omega)).trans h3
          have o4 := h4.below hI.below
          have o5 := (hI.below.block _ (by omega)).trans h.place
          have d2 := cell1 o3
          have d3 := cell1 o5
          have f2 := frozen1 o3
          have f3 := frozen1 o5
          have hz : (⟨x.toArray⟩ : ByteArray).size = x.length := rfl
          have ep : ((totL (pre ++ [x]) : Nat) : Int) = (totL pre : Int) + ((x.length : Int) + 1) := by rw [totL_snoc]; omega
          have j1 : IntKind.i64.wrap ((x.length : Int) + 1) = (x.length : Int) + 1 := by rw [IntKind.wrap_i64]; omega
          have j2 : IntKind.i64.wrap ((totL pre : Int) + ((x.length : Int) + 1)) = (totL pre : Int) + ((x.length : Int) + 1) := by rw [IntKind.wrap_i64]; omega
          have hV2 : w.heap.size + 7 ≤ V.heap.size := by omega
          by_cases hnil : L2 = []
          · have hl0 : ¬ (0 : Int) < (L2.length : Int) := by rw [hnil]; simp
            have hN := Lib.hid hnx
            have HI := Lib.hid hI
            have Hn := Lib.hid hnil
            clear hnx hI h1 hL2 hnil hLa hLn hL hr hx
            gi_wp2_with fail
            have hg5 := grown_cell V (w.heap.size + 3) 0 (.int .i64 ((totL pre : Int) + ((x.length : Int) + 1)))
            have hs5 := same7_grown h.size hsV hg5 (fun j e => by cases e; omega)
            have had : addRow (totL pre) (L2.map (·.1)) acc = acc := by rw [Hn.out]; rfl
            have e7 : (V.setCell ⟨w.heap.size + 3, 0, none⟩ (.int .i64 ((totL pre : Int) + ((x.length : Int) + 1)))).heap[w.heap.size + 3]? = some (.cells #[.int .i64 ((totL pre : Int) + ((x.length : Int) + 1))] 3 (0, 0)) := Lib.heap_setCell_same (i := 0) o5 _
            exact ⟨by rw [hsz] at hkV; exact hkV.trans (KeepsFrom.of_grownBy hg5 (fun j e => by cases e; omega)), keepL_same hs5, OutI.next h (by intro ls e; have := hN.out ls e; rw [had] at this; exact this) (by rw [totL_snoc]; omega) (heap_keep hg5 o3 (by simp)) (o4.off hg5 (fun k e => by cases e; exact .inl (by omega))) (by rw [ep]; exact e7) hs5⟩
          · have hl0 : (0 : Int) < (L2.length : Int) := by have := List.length_pos_iff.2 hnil; omega
            have hN := Lib.hid hnx
            have HI := Lib.hid hI
            have Hn := Lib.hid hnil
            clear hnx hI h1 hL2 hnil hLa hLn hL hr hx
            simp only [List.length_map] at c1
            obtain ⟨i0, hi, hz0, hz1, hz2⟩ := info_parts infoRow
            obtain ⟨vs, w1, w2, w3⟩ := o4
            have e3 : (V.alloc (.cells #[.int .i64 (totL pre : Int), .slice ad L2.length cp] 39)).ownsRow (w.heap.size + 7) 39 2 (.slice ad4 acc.length cp4) acc.length (rcells vs acc) := World.ownsRow.alloc w2 _
            have e4 := own_cells e3
            have hgA := World.grownBy_alloc V (.cells #[.int .i64 (totL pre : Int), .slice ad L2.length cp] 39) none
            have hnc := new_cellsN V [.int .i64 (totL pre : Int), .slice ad L2.length cp] 39 rfl
            have h1c : ∀ u ∈ [Value.int .i64 (totL pre : Int), .slice ad L2.length cp], u.oneCell' = true := by
              intro u hu
              simp only [List.mem_cons, List.not_mem_nil, or_false] at hu
              rcases hu with rfl | rfl <;> rfl
            have hA2 := hgA.size
            have b3 : w.heap.size + 7 ≤ (V.alloc (.cells #[.int .i64 (totL pre : Int), .slice ad L2.length cp] 39)).heap.size := by omega
            have hEN : ∀ v' w', w'.ownsRow (w.heap.size + 7) 39 2 v' (acc.length + 1) (rcells vs acc ++ [.int .i64 (totL pre : Int), .slice ad L2.length cp]) →
                (V.alloc (.cells #[.int .i64 (totL pre : Int), .slice ad L2.length cp] 39)).grownBy w' (Value.slice ad4 acc.length cp4).ownBlock →
                w'.heap[w.heap.size + 2]? = some (.cells #[.slice ad4 acc.length cp4] 23 (0, 0)) ∧ w'.heap[w.heap.size + 3]? = some (.cells #[.int .i64 (totL pre : Int)] 3 (0, 0)) ∧
                ∀ V', V' = (w'.setCell ⟨w.heap.size + 2, 0, none⟩ v').setCell ⟨w.heap.size + 3, 0, none⟩ (.int .i64 ((totL pre : Int) + ((x.length : Int) + 1))) → KeepsFrom W0.heap.size W V' ∧ KeepL (w.heap.size + 4) W V' ∧ OutI L w (pre ++ [x]) V' := by
              intro v' w' hown hgr
              have z1 := heap_keep hgr (heap_al o3 _) (fun e => by have := (e4 _ e.symm).1; omega)
              have z2 := heap_keep hgr (heap_al o5 _) (fun e => by have := (e4 _ e.symm).1; omega)
              refine ⟨z1, z2, fun V' e => ?_⟩
              have hg4 := grown_cell w' (w.heap.size + 2) 0 v'
              have hg5 := grown_cell (w'.setCell ⟨w.heap.size + 2, 0, none⟩ v') (w.heap.size + 3) 0 (.int .i64 ((totL pre : Int) + ((x.length : Int) + 1)))
              rw [← e] at hg5
              have hs5 := same7_grown h.size (same7_grown h.size (same7_grown h.size (same7_grown h.size hsV hgA (fun j e => by cases e)) hgr (fun j e => by have := (e4 _ e).1; omega)) hg4 (fun j e => by cases e; omega)) hg5 (fun j e => by cases e; omega)
              have hk5 := (((hkV.trans (KeepsFrom.of_grownBy hgA (fun j e => by cases e))).trans (keepsFrom_grown hgr (fun j e => by obtain ⟨_, cs, hc⟩ := e4 _ e; exact .inr ⟨_, hc, rfl⟩))).trans (KeepsFrom.of_grownBy hg4 (fun j e => by cases e; omega))).trans (KeepsFrom.of_grownBy hg5 (fun j e => by cases e; omega))
              have e6 := heap_keep hg5 (show (w'.setCell ⟨w.heap.size + 2, 0, none⟩ v').heap[w.heap.size + 2]? = some (.cells #[v'] 23 (0, 0)) from Lib.heap_setCell_same (i := 0) z1 v') (by simp)
              have e7 : V'.heap[w.heap.size + 3]? = some (.cells #[.int .i64 ((totL pre : Int) + ((x.length : Int) + 1))] 3 (0, 0)) := by
                rw [e]; exact Lib.heap_setCell_same (i := 0) (heap_keep hg4 z2 (by simp)) _
              have hws : Ws (V.alloc (.cells #[.int .i64 (totL pre : Int), .slice ad L2.length cp] 39)) (w.heap.size + 7) (.slice ad L2.length cp) (L2.map fun y => shiftW (totL pre) y.1) := by
                have := (v2.lower (B' := w.heap.size + 7) (by omega)).off hgA (fun j e => by cases e)
                simpa only [List.length_map] using this
              have hr8 : Rs w' (w.heap.size + 7) v' (acc ++ [⟨totL pre, L2.map fun y => shiftW (totL pre) y.1⟩]) :=
                Rs.snoc (r := ⟨totL pre, L2.map fun y => shiftW (totL pre) y.1⟩) w1 e3 (fun p hp => (w3 p hp).off hgA (fun j e => by cases e)) hws hgr hown
              have hr9 := (hr8.off hg4 (fun k e => by cases e; exact .inl (by omega))).off hg5 (fun k e => by cases e; exact .inl (by omega))
              have had : addRow (totL pre) (L2.map (·.1)) acc = acc ++ [⟨totL pre, L2.map fun y => shiftW (totL pre) y.1⟩] := by
                unfold addRow
                rw [if_neg (by intro e; exact Hn.out (List.map_eq_nil_iff.1 e)), List.map_map]; rfl
              refine ⟨hk5, keepL_same hs5, OutI.next h (by intro ls e; rw [← had]; exact hN.out ls e) (by rw [List.length_append, totL_snoc]; simp; omega) e6 hr9 (by rw [ep]; exact e7) hs5⟩
            have HEN := Lib.hid hEN
            clear hEN
            have hal : acc.length + 1 ≤ 20002 := by omega
            gi_wp2_with (gi_at_builtin; refine wpListIn_append_own _ rfl _ _ 23 rfl (w.heap.size + 7) 39 i0 (.agg #[.int .i64 0, .slice none 0 0]) 2 32 Tryd.underlying23 hi hz0 hz1 hz2 rfl (by decide) _ _ _ rfl e3 ⟨V.heap.size, 0, none⟩ 1 1 _ rfl rfl hnc h1c (by unfold maxLen; omega) (by omega) b3 ?_; intro v' w' hown hgr _; obtain ⟨z1, z2, zz⟩ := HEN.out v' w' hown hgr; obtain ⟨ad', c', rfl⟩ := own_slice hown; have t1 := frozen1 z1; have t2 := frozen1 z2; have t3 := cell1 z2; have t4 := cell1 z1)
            exact zz _ rfl
        case stop =>
          rintro j pre2 V hpre ⟨rfl, hX, hKF⟩
          gi_wp2_with fail
          exact ⟨by rw [hsz]; exact hKF, rfl, hX⟩
        case body =>
          rintro l2 pre2 y post2 a' V hx2 hl2 ⟨rl2, hrl2⟩ hI ⟨bw, rfl, hbw, hw, hv⟩
          obtain ⟨w0, w1, w2, wf⟩ := cell3 hw
          have wf0 := wf 0
          have wf1 := wf 1
          have p0 := cell1 (hI.below.block _ (by omega) |>.trans h.place)
          have hya : y.1.at_ ≤ x.length := hLa y (by rw [hx2]; simp)
          have hyz : 0 ≤ y.1.at_ := hLz y (by rw [hx2]; simp)
          have j1 : IntKind.i64.wrap ((y.1.at_ : Int) + (totL pre : Int)) = (y.1.at_ : Int) + (totL pre : Int) := by rw [IntKind.wrap_i64]; omega
          obtain ⟨y, yb⟩ := y
          cases yb with
          | false =>
            have hrr : r = ⟨[], 3, totL pre + y.at_.toNat⟩ := by
              obtain ⟨acc, v, h1, _⟩ := h.acc
              have h3 : rowF x = (pre2.map (·.1) ++ [], some y.at_.toNat) := by
                unfold rowF
                rw [← hL2, hx2, rowOf_app _ _ hI.all]; rfl
              rw [hrL, h1 _ hx]
              show (if 1000 < x.length then _ else _) = _
              rw [if_neg hlong', h3]
            have hS1 := Lib.heap_setCell_same (i := 0) hw (.int .i64 ((y.at_ : Int) + (totL pre : Int)))
            have hg1 := grown_cell V bw 0 (.int .i64 ((y.at_ : Int) + (totL pre : Int)))
            have hres := heap_keep hg1 ((hI.below.block _ (by omega)).trans h.res) (by simp; omega)
            have hfau := heap_keep hg1 ((hI.below.block _ (by omega)).trans h.fault) (by simp; omega)
            have hVs := hI.size
            have hbl := (h.below.trans (hI.below.mono (by omega))).grown hg1 (by omega) (fun j e => by cases e; omega)
            have hkV : KeepsFrom W2.heap.size V (V.setCell ⟨bw, 0, none⟩ (.int .i64 ((y.at_ : Int) + (totL pre : Int)))) := keepsFrom_grown hg1 (fun j e => by cases e; exact .inr ⟨_, hw, rfl⟩)
            have hkW : KeepsFrom (w.heap.size + 7) W (V.setCell ⟨bw, 0, none⟩ (.int .i64 ((y.at_ : Int) + (totL pre : Int)))) := (keepsFrom_below hI.below).trans (keepsFrom_grown hg1 (fun j e => by cases e; exact .inr ⟨_, hw, rfl⟩))
            have hs1' := hg1.size
            gi_wp2_with fail
            generalize V.setCell ⟨bw, 0, none⟩ (.int .i64 ((y.at_ : Int) + (totL pre : Int))) = V1 at *
            have r0 := cell1 hres
            have g0 := frozen1 hres
            have f0 := cell2_0 hfau
            have f1 := cell2_1 hfau
            have g1 := frozen2 hfau 0
            have g2 := frozen2 hfau 1
            have q0 : V1.cell? ⟨bw, 0, none⟩ = some (.int .i64 ((y.at_ : Int) + (totL pre : Int))) := by simp [World.cell?, hS1]
            gi_region
            all_goals
              generalize hW3 : World.setCell _ _ _ = W3
              obtain ⟨k1, k2, k3, k4, k5, k6⟩ := fin3 hbl (by omega) hres hfau hW3.symm
              gi_wp2_with fail
              rw [hrr]
              exact ⟨keepsFrom_drew (hkV.trans (keepsFrom_mono k5 (by omega))), rfl, ⟨Below.drew k1, rfl, k2, by rw [show (((totL pre + y.at_.toNat : Nat)) : Int) = (y.at_ : Int) + (totL pre : Int) by omega]; exact k3, k4⟩, keepsFrom_drew (hkW.trans k5)⟩
          | true =>
            dsimp only at hw w0 w1 w2 j1 hya
            obtain ⟨i0, hi, hz0, hz1, hz2⟩ := info_parts infoWord
            obtain ⟨v, v1, v2⟩ := hI.row
            have hvb := hv v v1
            obtain ⟨ad, cp, rfl⟩ := v2.slice
            have hS1 := Lib.heap_setCell_same (i := 0) hw (.int .i64 ((y.at_ : Int) + (totL pre : Int)))
            have hg1 := grown_cell V bw 0 (.int .i64 ((y.at_ : Int) + (totL pre : Int)))
            have hVs := hI.size
            have hI1 := hI.below.grown hg1 (by omega) (fun j e => by cases e; omega)
            have e1 := heap_keep hg1 v1 (by simp; omega)
            have e2 : Ws (V.setCell ⟨bw, 0, none⟩ (.int .i64 ((y.at_ : Int) + (totL pre : Int)))) W.heap.size _ _ := World.ownsRow.kept v2 hg1 (.inr hvb)
            have hkV : KeepsFrom W2.heap.size V (V.setCell ⟨bw, 0, none⟩ (.int .i64 ((y.at_ : Int) + (totL pre : Int)))) := keepsFrom_grown hg1 (fun j e => by cases e; exact .inr ⟨_, hw, rfl⟩)
            have hkS : KeepS (W.heap.size + 2) V (V.setCell ⟨bw, 0, none⟩ (.int .i64 ((y.at_ : Int) + (totL pre : Int)))) := keepS_grown hg1 (fun j e => by cases e; exact .inr ⟨_, hw, fun cs e => by cases e⟩)
            have hs1' := hg1.size
            have hln : pre2.length + 1 ≤ 1000 := by
              have := congrArg List.length hx2
              simp only [List.length_append, List.length_cons] at this
              omega
            have c1 := cell2_1 v1
            have n1 : W.heap.size ≠ bw := by omega
            have n2 : bw ≠ W.heap.size := by omega
            have ea : (shiftW (totL pre) y).at_ = (y.at_ : Int) + (totL pre : Int) := rfl
            have f1 := frozen2 v1 1
            have e3 : ((V.setCell ⟨bw, 0, none⟩ (.int .i64 ((y.at_ : Int) + (totL pre : Int)))).alloc (.cells #[.int .i64 ((y.at_ : Int) + (totL pre : Int)), .string ⟨y.key.toArray⟩, .string ⟨y.text.toArray⟩] 46)).ownsRow W.heap.size 46 3 (.slice ad pre2.length cp) pre2.length (wcells (pre2.map fun y => shiftW (totL pre) y.1)) := by
              have := World.ownsRow.alloc e2 (.cells #[.int .i64 ((y.at_ : Int) + (totL pre : Int)), .string ⟨y.key.toArray⟩, .string ⟨y.text.toArray⟩] 46)
              simpa only [List.length_map] using this
            have e4 := own_cells e3
            have e5 := heap_al e1 (.cells #[.int .i64 ((y.at_ : Int) + (totL pre : Int)), .string ⟨y.key.toArray⟩, .string ⟨y.text.toArray⟩] 46)
            have hgA := World.grownBy_alloc (V.setCell ⟨bw, 0, none⟩ (.int .i64 ((y.at_ : Int) + (totL pre : Int)))) (.cells #[.int .i64 ((y.at_ : Int) + (totL pre : Int)), .string ⟨y.key.toArray⟩, .string ⟨y.text.toArray⟩] 46) none
            have hnc := new_cellsN (V.setCell ⟨bw, 0, none⟩ (.int .i64 ((y.at_ : Int) + (totL pre : Int)))) [.int .i64 ((y.at_ : Int) + (totL pre : Int)), .string ⟨y.key.toArray⟩, .string ⟨y.text.toArray⟩] 46 (World.size_setCell ..)
            have h1c : ∀ u ∈ [Value.int .i64 ((y.at_ : Int) + (totL pre : Int)), .string ⟨y.key.toArray⟩, .string ⟨y.text.toArray⟩], u.oneCell' = true := by have := wcell_one (shiftW (totL pre) y); unfold wcell at this; rw [ea] at this; exact this
            have hA2 := hgA.size
            have b3 : W.heap.size ≤ ((V.setCell ⟨bw, 0, none⟩ (.int .i64 ((y.at_ : Int) + (totL pre : Int)))).alloc (.cells #[.int .i64 ((y.at_ : Int) + (totL pre : Int)), .string ⟨y.key.toArray⟩, .string ⟨y.text.toArray⟩] 46)).heap.size := by omega
            have hEN : ∀ v' w', w'.ownsRow W.heap.size 46 3 v' (pre2.length + 1) (wcells (pre2.map fun y => shiftW (totL pre) y.1) ++ [.int .i64 ((y.at_ : Int) + (totL pre : Int)), .string ⟨y.key.toArray⟩, .string ⟨y.text.toArray⟩]) →
                ((V.setCell ⟨bw, 0, none⟩ (.int .i64 ((y.at_ : Int) + (totL pre : Int)))).alloc (.cells #[.int .i64 ((y.at_ : Int) + (totL pre : Int)), .string ⟨y.key.toArray⟩, .string ⟨y.text.toArray⟩] 46)).grownBy w' (Value.slice ad pre2.length cp).ownBlock →
                w'.heap[W.heap.size]? = some (.cells #[.int .i64 (totL pre : Int), .slice ad (pre2.map fun y => shiftW (totL pre) y.1).length cp] 39 (0, 0)) ∧
                (KeepsFrom W2.heap.size V (w'.setCell ⟨W.heap.size, 1, none⟩ v') ∧ KeepS (W.heap.size + 2) V (w'.setCell ⟨W.heap.size, 1, none⟩ v') ∧ InI (totL pre) W (pre2 ++ [(y, true)]) (w'.setCell ⟨W.heap.size, 1, none⟩ v')) := by
              intro v' w' hown hgr
              have z1 := heap_keep hgr e5 (fun e => by
                obtain ⟨_, cs, hc⟩ := e4 _ e.symm
                rw [e5] at hc; cases hc)
              have hg4 := grown_cell w' W.heap.size 1 v'
              have hgs := hgr.size
              have hg4s := hg4.size
              refine ⟨z1, ?_, ?_, ?_⟩
              · exact ((hkV.trans (KeepsFrom.of_grownBy hgA (fun j e => by cases e))).trans (keepsFrom_grown hgr (fun j e => by obtain ⟨_, cs, hc⟩ := e4 _ e; exact .inr ⟨_, hc, rfl⟩))).trans (KeepsFrom.of_grownBy hg4 (fun j e => by cases e; omega))
              · exact keepS_trans (keepS_trans (keepS_trans hkS (keepS_grown hgA (fun j e => by cases e))) (keepS_grown hgr (fun j e => by obtain ⟨_, cs, hc⟩ := e4 _ e; exact .inr ⟨_, hc, fun cs e => by cases e⟩))) (keepS_grown hg4 (fun j e => by cases e; exact .inl (by omega)))
              · refine ⟨fun z hz => ?_, ((hI1.grown hgA (by omega) (fun j e => by cases e)).grown hgr (by omega) (fun j e => (e4 _ e).1)).grown hg4 (by omega) (fun j e => by cases e; omega), ⟨v', Lib.heap_setCell_same (i := 1) z1 v', ?_⟩, by omega⟩
                · rcases List.mem_append.1 hz with hz | hz
                  · exact hI.all z hz
                  · simp at hz; rw [hz]
                · have hws : Ws w' W.heap.size v' ((pre2 ++ [(y, true)]).map fun y => shiftW (totL pre) y.1) := by
                    unfold Ws
                    rw [List.map_append, List.length_append, List.length_map, show ([(y, true)].map fun (y : Wd × Bool) => shiftW (totL pre) y.1) = [shiftW (totL pre) y] from rfl, wcells_snoc]
                    unfold wcell
                    rw [ea]
                    exact hown
                  exact hws.kept hg4 (fun k e => by cases e; exact .inr ⟨_, z1, fun cs e => by cases e⟩)
            have HEN := Lib.hid hEN
            clear hEN
            gi_wp2_with (gi_at_builtin; refine wpListIn_append_own _ rfl _ _ 37 rfl W.heap.size 46 i0 (.agg #[.int .i64 0, .string ⟨#[]⟩, .string ⟨#[]⟩]) 3 40 Tryd.underlying37 hi hz0 hz1 hz2 rfl (by decide) _ _ _ rfl e3 ⟨V.heap.size, 0, none⟩ 1 1 _ rfl rfl hnc h1c (by unfold maxLen; omega) (by omega) b3 ?_; intro v' w' hown hgr _; obtain ⟨z1, zz⟩ := HEN.out v' w' hown hgr; obtain ⟨ad', c', rfl⟩ := own_slice hown; have z2 := frozen2 z1 1; have z3 := cell2_1 z1)
            refine ⟨?_, zz.2⟩
            have hz9 : W2.heap.size = W.heap.size + 2 := by omega
            first | exact zz.1 | (rw [← hz9]; exact zz.1) | (rw [hz9]; exact zz.1)
end Go.Proofs.YtbcofimmfbmkoaaDoor
