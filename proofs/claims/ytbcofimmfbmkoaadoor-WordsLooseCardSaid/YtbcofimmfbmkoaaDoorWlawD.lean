/- Chapter 3: literal rows; the walks of row, fails and awake. -/
import Derived.Test.YtbcofimmfbmkoaaDoorWlawC
import Derived.Laws.StructEq
import Derived.Deep.DeepMust
namespace Go.Proofs.YtbcofimmfbmkoaaDoor
open Go.RowKit Go.Shelf Words3

theorem row_of_heap {w : World} {b t n size : Nat} {xs : List Value} (h : w.heap[b]? = some (.cells xs.toArray t (0, 0))) (hl : xs.length = n * size) : Row w size (.slice (some ⟨b, 0, none⟩) n n) n xs := by
  refine ⟨hl, _, _, rfl, Nat.le_refl _, fun j v hj => ⟨_, rfl, ?_⟩⟩
  rw [addr_add]
  simp only [World.cell?, h]
  simpa using hj
theorem words_lit {w : World} {b n : Nat} (ws : List Wd) (h : w.heap[b]? = some (.cells (wcells ws).toArray 46 (0, 0))) (hn : ws.length = n) : WordsAt w (.slice (some ⟨b, 0, none⟩) n n) ws := by
  subst hn
  exact row_of_heap h (wcells_length ws)
theorem rcells_length : ∀ (vs : List Value) (rs : List Rw), vs.length = rs.length → (rcells vs rs).length = rs.length * 2
  | [], [], _ => rfl
  | [], _ :: _, h => by cases h
  | _ :: _, [], h => by cases h
  | v :: vs, r :: rs, h => by
    have ih := rcells_length vs rs (Nat.succ.inj h)
    have e : rcells (v :: vs) (r :: rs) = .int .i64 (r.at_ : Int) :: v :: rcells vs rs := rfl
    rw [e, List.length_cons, List.length_cons, ih, List.length_cons]; omega
theorem rows_lit {w : World} {b n : Nat} (vs : List Value) (rs : List Rw) (h : w.heap[b]? = some (.cells (rcells vs rs).toArray 39 (0, 0))) (hv : vs.length = rs.length) (hn : rs.length = n) (hw : ∀ p ∈ rs.zip vs, WordsAt w p.2 p.1.words) : RowsAt w (.slice (some ⟨b, 0, none⟩) n n) rs := by
  subst hn
  exact ⟨vs, hv, row_of_heap h (rcells_length vs rs hv), hw⟩
theorem results_cell_row {fn : Func} {P : Program} {p : Tmp} {ty : TypeId} (h : fn.results = #[.cell p ty]) (tmps : Array Value) (w : World) (g : Nat) (t : TypeId) (cs : Array Value) (fr : Nat × Nat) (d : TypeDesc)
    (hp : tmps.getD p undef = .pointer (some ⟨g, 0, none⟩)) (hg : w.heap[g]? = some (.cells cs t fr))
    (hu : P.underlying ty = some d) (hd : (match d with | .struct _ | .array _ _ => true | _ => false) = true) (hi : (P.info? ty).map (·.size) = some cs.size) :
    (results fn tmps).run P w = .ok (.agg cs) w := by
  have hp' : tmps[p]?.getD undef = .pointer (some ⟨g, 0, none⟩) := by simpa using hp
  simp [results, h, hp', asAddr, run_loadVar_row w g t ty cs fr d hg hu hd hi]
theorem row_any (n : Int) (v : Value) (W : World) (hv : ∃ ad m c, v = .slice ad m c) : Calls Tryd.prog 27 #[.int .i64 n, v] W fun e w' => e = .returned (.agg #[.int .i64 n, v]) ∧ Below W.heap.size W w' := by
  obtain ⟨ad, m, c, rfl⟩ := hv
  have h1 := World.alloc_heap_new W (.cells #[.int .i64 n, .slice ad m c] 39)
  have h2 := Go.Joins.below_alloc1 W (.cells #[.int .i64 n, .slice ad m c] 39)
  have H := Lib.hid (And.intro h1 h2)
  clear h1 h2
  go_enter Tryd.func27, Tryd.ntmps27
  go_wp2_with fail
  refine bodyPost_ret (results_cell_row rfl _ _ W.heap.size _ _ _ _ rfl H.out.1 Tryd.underlying39 rfl (by kernel_rfl)) rfl ?_
  exact ⟨rfl, H.out.2⟩
theorem eq_fault (x1 y1 x2 y2 : Int) (W : World) : (binOp .eql 26 (.agg #[.int .i64 x1, .int .i64 x2]) (.agg #[.int .i64 y1, .int .i64 y2])).run Tryd.prog W = .ok (.bool ((x1 == y1) && (x2 == y2))) W := by
  have t1 : Tryd.prog.stoodInHeld 26 = false := by kernel_rfl
  have t2 : Tryd.prog.underlying 26 = some (.struct (Tryd.prog.fieldsOf 26)) := by kernel_rfl
  rw [run_eql_struct, run_equalIn_agg _ _ _ _ _ t2 t1]
  simp [go_sem]
  by_cases h1 : x1 = y1 <;> by_cases h2 : x2 = y2 <;> simp [h1, h2]

set_option maxRecDepth 100000 in
/-- fails is true where the text has the fault ErrForm at that place. -/
theorem fails_true (s : ByteArray) (n : Nat) (h : rowsF s.data.toList = ⟨[], 3, n⟩) (W : World) : Calls Tryd.prog 28 #[.string s, .int .i64 (n : Int)] W fun e w' => e = .returned (.bool true) ∧ Below W.heap.size W w' := by
  have HR := Lib.hid (Rows_any s W)
  rw [h] at HR
  have E := eq_fault 3 3 n n
  rw [show (((3 : Int) == 3) && ((n : Int) == n)) = true by simp] at E
  have HE := Lib.hid E
  clear h
  go_enter Tryd.func28, Tryd.ntmps28
  go_wp2_with fail
  refine HR.out.mono ?_
  rintro e w1 ⟨v, rfl, hrs, hb⟩
  obtain ⟨ad, c, rfl⟩ := hrs.slice
  dsimp only [List.length_nil] at *
  have hb1 := hb.trans ((Go.Joins.below_alloc1 w1 (.cells #[.int .i64 3, .int .i64 (n : Int)] 26)).mono hb.size)
  have E := HE.out
  go_wp2_with fail
  go_ret
  exact ⟨rfl, hb1⟩
end Go.Proofs.YtbcofimmfbmkoaaDoor
