/- The walks of Put, Size, Frame of chapter 10 (stuff). -/
import Derived.Test.YtcpahelmaejjeaaDoorStuffA
import Derived.Lib.BufferAt
namespace Go.Proofs.YtcpahelmaejjeaaDoor
open Go.RowKit Go.Shelf Stuff10

attribute [local go_sem] Oper.semAt_some

theorem buffer_keep {T : TypeId} {R : Nat → Option Value} {e : TypeId} {B b o : Nat} {bs : List Value} {W W' : World} {k : Nat} (h : LibA.IsBuffer T R e B b o bs W) (hg : W.grownBy W' (some k)) (hkb : k ≠ b)
    (hk : ∀ cs fz, W.heap[k]? ≠ some (.cells cs e fz)) : LibA.IsBuffer T R e B b o bs W' := by
  obtain ⟨hB, v, lr, hbk, hown, hne⟩ := h
  refine ⟨hB, v, lr, hbk.of_heap (hg.block b hbk.lt (fun e => hkb (by cases e; rfl))), hown.kept hg (Or.inr ?_), hne⟩
  intro e
  rcases hown.2 with ⟨rfl, _⟩ | ⟨g, cap, cur, rfl, _, hgc, _⟩
  · simp [Value.ownBlock] at e
  · simp only [Value.ownBlock, Option.some.injEq] at e
    subst e
    exact hk _ _ hgc

/-- What stands of the caller's between two rounds: a buffer in the block b, the iterator's cell behind it. -/
def PutI (w : World) (pre : List (List UInt8 × Bool)) (W : World) : Prop :=
  LibA.IsBuffer 56 (fun _ => none) 5 w.heap.size w.heap.size 0 (Lib.byteCells (pre.flatMap fun p => enc p.1)) W ∧ Below w.heap.size w W ∧ ∃ v, W.heap[w.heap.size + 1]? = some (.cells #[v] 9 (0, 0))

theorem putI_mine (w : World) (B : Nat) (hB : w.heap.size + 1 < B) : Mine (w.heap.size + 1) 9 B (PutI w) := by
  refine ⟨fun s A A' ⟨hb, hbl, v, hv⟩ hT => ⟨buffer_keep hb hT.1 (by omega) (fun cs fz h => by rw [hv] at h; cases h), hbl.grown hT.1 (Nat.le_trans hbl.size (Nat.le_refl _)) (fun k hk => by cases hk; omega), hT.2⟩,
    fun s A A' k ⟨hb, hbl, v, hv⟩ hg hk ⟨o, ho, hoc⟩ => ⟨buffer_keep hb hg (by omega) (fun cs fz h => by rw [ho] at h; cases h; cases hoc), hbl.grown hg hbl.size (fun j hj => by cases hj; omega), v, ?_⟩⟩
  exact (hg.block _ (Array.getElem?_eq_some_iff.1 hv).1 (fun e => by cases e; omega)).trans hv

theorem put_one {l : List Value} {n : Int} (h : ∀ v ∈ l, v.oneCell' = true) : ∀ v ∈ l ++ [Value.int .u8 n], v.oneCell' = true := fun v hv => by
  rcases List.mem_append.1 hv with h1 | h1
  · exact h v h1
  · simp at h1; subst h1; rfl
theorem put_cells (pre : List (List UInt8 × Bool)) (x : List UInt8 × Bool) (hx : x.1.length ≤ 254) : Lib.byteCells ((pre ++ [x]).flatMap fun p => enc p.1) = Lib.byteCells (pre.flatMap fun p => enc p.1) ++ [Value.int .u8 (1 + (x.1.length : Int))] ++ Lib.byteCells x.1 := by
  have e : ((UInt8.ofNat (1 + x.1.length)).toNat : Int) = 1 + (x.1.length : Int) := by rw [ofNat_nat (by omega)]; omega
  rw [List.flatMap_append, Lib.byteCells_append, List.append_assoc]
  simp only [List.flatMap_cons, List.flatMap_nil, List.append_nil]
  congr 1
  show Value.int .u8 _ :: _ = _
  rw [e]; rfl

set_option maxHeartbeats 2000000 in
set_option maxRecDepth 100000 in
theorem put_any (s : ByteArray) (hs : s.size ≤ 20000) (w : World) :
    Calls Tryd.prog 12 #[.string s] w fun e w' => e = .returned (.tuple #[.string ⟨(put s.data.toList).toArray⟩, .int .i64 0]) ∧ Below w.heap.size w w' := by
  refine (callsIn_wide (n := 9)).1 ?_
  have hs' : decide ((20000 : Int) < s.size) = false := by simp; omega
  refine callsIn_of_wp_marks Tryd.func12 rfl trivial ?_ rfl
  simp only [Tryd.ntmps12, List.size_toArray, List.length_cons, List.length_nil, Nat.reduceAdd, Nat.reduceSub, Array.replicate_succ, Array.replicate_zero, List.push_toArray, List.append_toArray, List.nil_append, List.cons_append]
  have hp := fun n W => pieces_any n s W
  gi_wp2_with (refine ⟨trivial, ?_⟩; gi_at_call 31; refine (hp _ _).mono ?_; clear hp; rintro e w' ⟨rfl, rfl⟩)
  have hW : PutI w [] ((w.alloc (.cells #[.slice none 0 0, .int .i64 0, .int .i8 0] 56)).alloc (.cells #[.string s] 9)) := by
    refine ⟨LibA.zero_isBuffer (Nat.le_refl _) (lr := 0) (LibA.three_whole ?_), ((Below.refl _ w).alloc (Nat.le_refl _) _).alloc (by simp) _, .string s, ?_⟩
    · exact (Below.heap_alloc _ _ _ (by simp)).trans (World.alloc_heap_new w _)
    · have := World.alloc_heap_new (w.alloc (.cells #[.slice none 0 0, .int .i64 0, .int .i8 0] 56)) (.cells #[.string s] 9)
      rwa [World.size_alloc] at this
  have hcell : ((w.alloc (.cells #[.slice none 0 0, .int .i64 0, .int .i8 0] 56)).alloc (.cells #[.string s] 9)).heap[w.heap.size + 1]? = some (.cells #[.string s] 9 (0, 0)) := by
    have := World.alloc_heap_new (w.alloc (.cells #[.slice none 0 0, .int .i64 0, .int .i8 0] 56)) (.cells #[.string s] 9)
    rwa [World.size_alloc] at this
  have hsz : ((w.alloc (.cells #[.slice none 0 0, .int .i64 0, .int .i8 0] 56)).alloc (.cells #[.string s] 9)).heap.size = w.heap.size + 2 := by simp
  generalize (w.alloc (.cells #[.slice none 0 0, .int .i64 0, .int .i8 0] 56)).alloc (.cells #[.string s] 9) = W0 at *
  obtain ⟨L, hL⟩ : ∃ L, L = pcs (s.data.toList.length + 1) s.data.toList := ⟨_, rfl⟩
  refine range_cell rfl (by omega) (gf := 40) (lb := #[.pointer (some ⟨w.heap.size + 1, 0, none⟩)]) rfl trivial (enters_of Tryd.func40 (by kernel_rfl) rfl)
    (pieces1_any _ _ s (by omega) L hL) hcell (fun _ => rfl) (PutI w) (fun _ _ _ => False) (putI_mine w _ (by omega)) (fun _ _ _ => trivial) (fun _ => ⟨fun _ _ _ h _ => h, fun _ _ _ _ h _ _ _ => h⟩)
    (fun W hb => by
      obtain ⟨h1, h2, v, h3⟩ := hW
      exact ⟨h1.old hb, h2.trans (hb.mono h2.size), v, (hb.block _ (by omega)).trans h3⟩)
    (fun x => { tmps := #[.string s, undef, .string ⟨#[]⟩, .int .i64 0, .pointer (some ⟨w.heap.size, 0, none⟩), .string ⟨x.1.toArray⟩, .string s, .int .i64 s.size, .bool false, .string s, .func (.func 40) #[] #[.pointer (some ⟨w.heap.size + 1, 0, none⟩)], .string ⟨x.1.toArray⟩, .bool x.2, undef, undef, undef, undef, undef, undef, undef, undef, undef, undef, undef], defers := [] }) ?assign ?body ?done ?stop
  case assign =>
    intro l x W K hK
    unfold piece
    gi_wp2
    exact hK
  case body =>
    rintro l pre x post W hx ⟨h1, h2, v, h3⟩
    have hlen := congrArg (fun L => (L.flatMap fun p => enc p.1).length) hx
    have hput := (put_sizes _ s.data.toList (Nat.le_refl _)).2.2
    have hx1 : x.1.length ≤ 254 := pcs_le _ _ x (by rw [← hL, hx]; simp)
    unfold put at hput
    rw [← hL, length_size] at hput
    simp only [List.flatMap_append, List.flatMap_cons, List.length_append, enc_length] at hlen
    clear hL hx
    have hw := h2.size
    have hl1 := Lib.byteCells_length (pre.flatMap fun p => enc p.1)
    have ho1 := Lib.byteCells_one (pre.flatMap fun p => enc p.1)
    have c1 := Tryd.Buffer_WriteByte_at 56 (fun _ => none) w.heap.size w.heap.size 0 _ (1 + (x.1.length : Int)) W h1 hw ho1 (by omega)
    gi_wp2_with (first
      | (refine ⟨trivial, ?_⟩; gi_at_call 32; refine (CallsIn.inRound l (callsIn_wide.2 c1)).mono ?_; clear c1; rintro e W2 ⟨rfl, i2, b2, k2⟩
         have c2 := Tryd.Buffer_WriteString_at 56 (fun _ => none) w.heap.size w.heap.size 0 _ ⟨x.1.toArray⟩ W2 i2 (Nat.le_trans hw b2.size) (put_one ho1) (by rw [List.length_append]; show _ + 1 + x.1.length ≤ _; omega))
      | (refine ⟨trivial, ?_⟩; gi_at_call 33; refine (CallsIn.inRound l (callsIn_wide.2 c2)).mono ?_; clear c2; rintro e W3 ⟨rfl, i3, b3, k3⟩))
    have kk := k2.trans k3
    have hc3 := kk _ _ h3 (by simp) (fun c fz e => by cases e)
    refine ⟨⟨Nat.le_trans b2.size b3.size, fun k o hk ho hoc => kk k o ho (by simp; omega) (fun c fz e => by subst e; cases hoc)⟩, hc3.trans h3.symm, ?_, h2.trans (b2.trans b3), v, hc3⟩
    rw [put_cells _ _ hx1]; exact i3
  case done =>
    rintro D W hD ⟨h1, h2, v, h3⟩ hK
    have hput : (L.flatMap fun p => enc p.1) = put s.data.toList := by rw [hL]; rfl
    rw [hput] at h1
    have c3 := Tryd.Buffer_String_at 56 (fun _ => none) w.heap.size w.heap.size 0 _ W h1
    clear hL hput
    gi_wp2_with (refine ⟨trivial, ?_⟩; gi_at_call 34; refine (callsIn_wide.2 c3).mono ?_; clear c3; rintro e W2 ⟨rfl, k, rfl⟩)
    refine ⟨by simp, .inl ⟨_, _, rfl, run_takeDeferred (show (W.drewN k).heap[D]? = _ from hK), ?_⟩⟩
    have hb4 : Below w.heap.size w (W.drewN k) := h2.trans ⟨rfl, rfl, rfl, Nat.le_refl _, fun _ _ => rfl⟩
    exact ⟨_, results_tmp2 rfl _ _ _, rfl, hb4.trans (belowK_b (w := w) (Nat.le_refl _) (W.drewN k) D _ _ (by omega) (show (W.drewN k).heap[D]? = _ from hK) rfl rfl)⟩
  case stop =>
    rintro D j pre W _ _ h _
    exact h.elim

set_option maxHeartbeats 2000000 in
theorem put_long (s : ByteArray) (hs : 20000 < s.size) (w : World) :
    Calls Tryd.prog 12 #[.string s] w fun e w' => e = .returned (.tuple #[.string ⟨#[]⟩, .int .i64 4]) ∧ w' = w := by
  have hs' : decide ((20000 : Int) < s.size) = true := by simp; omega
  refine (callsIn_wide (n := 9)).1 ?_
  refine callsIn_of_wp_marks Tryd.func12 rfl trivial ?_ rfl
  simp only [Tryd.ntmps12, List.size_toArray, List.length_cons, List.length_nil, Nat.reduceAdd, Nat.reduceSub, Array.replicate_succ, Array.replicate_zero, List.push_toArray, List.append_toArray, List.nil_append, List.cons_append]
  gi_wp2
  exact ⟨_, results_tmp2 rfl _ _ _, rfl, rfl⟩

/-- What Put answers: the form, or the error. -/
def putS (l : List UInt8) : List UInt8 × Nat := if 20000 < l.length then ([], 4) else (put l, 0)
theorem Put_any (s : ByteArray) (w : World) :
    Calls Tryd.prog 12 #[.string s] w fun e w' => e = .returned (.tuple #[.string ⟨(putS s.data.toList).1.toArray⟩, .int .i64 (putS s.data.toList).2]) ∧ Below w.heap.size w w' := by
  unfold putS
  rw [length_size]
  by_cases h : 20000 < s.size
  · rw [if_pos h]
    exact (put_long s h w).mono fun e w' ⟨h1, h2⟩ => ⟨h1, h2 ▸ Below.refl _ _⟩
  · rw [if_neg h]
    exact put_any s (by omega) w

theorem Size_any (s : ByteArray) (w : World) :
    Calls Tryd.prog 15 #[.string s] w fun e w' => e = .returned (.tuple #[.int .i64 (putS s.data.toList).1.length, .int .i64 (putS s.data.toList).2]) ∧ Below w.heap.size w w' := by
  have hc := Lib.hid (Put_any s w)
  obtain ⟨q, hq⟩ : ∃ q, q = putS s.data.toList := ⟨_, rfl⟩
  rw [← hq] at hc ⊢
  clear hq
  go_enter Tryd.func15, Tryd.ntmps15
  go_wp2_with fail
  refine (hc.out).mono ?_
  rintro e w' ⟨rfl, hb⟩
  go_wp2
  go_ret2
  exact ⟨rfl, hb⟩

theorem Frame_any (s : ByteArray) (w : World) :
    Calls Tryd.prog 17 #[.string s] w fun e w' => e = .returned (.tuple #[.string ⟨(if 20000 < s.size then [] else put s.data.toList ++ [0]).toArray⟩, .int .i64 (if 20000 < s.size then 4 else 0)]) ∧ Below w.heap.size w w' := by
  by_cases h : 20000 < s.size
  · rw [if_pos h, if_pos h]
    have hc := Lib.hid (put_long s h w)
    go_enter Tryd.func17, Tryd.ntmps17
    go_wp2_with fail
    refine (hc.out).mono ?_
    rintro e w' ⟨rfl, rfl⟩
    go_wp2
    go_ret2
    exact ⟨rfl, Below.refl _ _⟩
  · rw [if_neg h, if_neg h]
    have hc := Lib.hid (put_any s (by omega) w)
    have hsz := (put_sizes _ s.data.toList (Nat.le_refl _)).2.2
    rw [length_size] at hsz
    generalize put s.data.toList = q at *
    go_enter Tryd.func17, Tryd.ntmps17
    go_wp2_with fail
    refine (hc.out).mono ?_
    rintro e w' ⟨rfl, hb⟩
    have hadd := run_string_add_sum (P := Tryd.prog) (a := ⟨q.toArray⟩) (b := ⟨#[0]⟩) (h := by show q.length + 1 ≤ _; omega)
    go_wp2
    go_ret2
    exact ⟨by rw [show (⟨q.toArray⟩ : ByteArray) ++ ⟨#[0]⟩ = ⟨(q ++ [0]).toArray⟩ from by apply ByteArray.ext; simp [ByteArray.data_append]]; rfl, hb⟩
end Go.Proofs.YtcpahelmaejjeaaDoor
