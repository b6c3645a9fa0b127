/- Texts of small laws, one behind the other. -/
import Derived.Test.YtmfbkelhegdmpaaGreatDoorSnapPl
import Derived.Test.YtmfbkelhegdmpaaGreatDoorSnapAK
import Derived.Test.YtmfbkelhegdmpaaGreatDoorSnapCG
import Derived.Orders
import Derived.Defers
import Derived.Test.YtmfbkelhegdmpaaGreatDoorSnapM
/- Chapter 13, the plain law of Recover: what its steps find. -/
namespace Go.Proofs.YtmfbkelhegdmpaaGreatDoor
open Go.RowKit Disk11 Journal12 Sum2

theorem own_get (h : List UInt8) : ∀ (L : List (List UInt8)) (j : Nat), j < (ownS h L).length → ∃ x, L[j]? = some x ∧ x.take h.length = h ∧ (ownS h L)[j]? = some (x.drop h.length)
  | [], j, hj => by simp [ownS] at hj
  | x :: L, j, hj => by
    unfold ownS at hj ⊢
    by_cases hx : x.take h.length = h
    · rw [if_pos hx] at hj ⊢
      cases j with
      | zero => exact ⟨x, rfl, hx, rfl⟩
      | succ j =>
        rw [List.length_cons] at hj
        obtain ⟨y, h1, h2, h3⟩ := own_get h L j (by omega)
        exact ⟨y, by rw [List.getElem?_cons_succ]; exact h1, h2, by rw [List.getElem?_cons_succ]; exact h3⟩
    · rw [if_neg hx] at hj; simp at hj
theorem own_end (h : List UInt8) : ∀ (L : List (List UInt8)) (x : List UInt8), L[(ownS h L).length]? = some x → x.take h.length ≠ h
  | [], x, hj => by simp at hj
  | y :: L, x, hj => by
    unfold ownS at hj
    by_cases hx : y.take h.length = h
    · rw [if_pos hx, List.length_cons, List.getElem?_cons_succ] at hj
      exact own_end h L x hj
    · rw [if_neg hx, List.length_nil, List.getElem?_cons_zero] at hj
      rw [← Option.some.inj hj]; exact hx
/-- One step of the loop: behind j records that begin with the head the next one does just if j is not yet their number. -/
theorem own_step {h : List UInt8} {L O : List (List UInt8)} (hO : O = ownS h L) {j : Nat} (hj : j ≤ O.length) (hl : j < L.length) :
    (j < O.length ∧ L[j].take h.length = h ∧ O.take (j + 1) = O.take j ++ [L[j].drop h.length]) ∨ (j = O.length ∧ L[j].take h.length ≠ h) := by
  subst hO
  rcases Nat.lt_or_ge j (ownS h L).length with hlt | hge
  · obtain ⟨x, h1, h2, h3⟩ := own_get h L j hlt
    rw [List.getElem?_eq_getElem hl] at h1
    rw [Option.some.inj h1]
    refine .inl ⟨hlt, h2, ?_⟩
    rw [List.take_add_one, h3]; rfl
  · have e : j = (ownS h L).length := by omega
    refine .inr ⟨e, ?_⟩
    subst e
    exact own_end h L _ (List.getElem?_eq_getElem hl)
theorem offsJ_at : ∀ (a : Nat) (l : List (List UInt8)) (k : Nat), k < l.length → (offsJ a l)[k]? = some (a + sizeJ (l.take k))
  | a, x :: l, 0, _ => by unfold offsJ; simp [sizeJ]
  | a, x :: l, k + 1, h => by
    unfold offsJ
    rw [List.getElem?_cons_succ, offsJ_at _ l k (by simpa using h), List.take_succ_cons, sizeJ_cons]
    congr 1; omega
theorem intVals_at13 (l : List Nat) (i : Nat) (z : Nat) (h : l[i]? = some z) : (intVals l)[i]? = some (.int .i64 (z : Int)) := by rw [intVals_get, h]; rfl
/-- The parts of what a slot has. -/
theorem foundC_form (r : Nat × List UInt8) : ∃ (s : List UInt8), foundC r = #[.int .u64 (r.1 : Int), .string ⟨s.toArray⟩, .bool (decide (r.1 ≠ 0))] ∧ (r.1 ≠ 0 → s = r.2) := by
  unfold foundC
  by_cases h : r.1 = 0
  · rw [if_pos h]; exact ⟨[], by simp [h], fun h2 => absurd h h2⟩
  · rw [if_neg h]; exact ⟨r.2, by simp [h], fun _ => rfl⟩
/-- Which of the two is taken. -/
def pickS (r0 r1 : Nat × List UInt8) : Nat × List UInt8 := if r0.1 = 0 ∨ (r1.1 ≠ 0 ∧ r0.1 < r1.1) then r1 else r0
theorem pick_best (d : Dev) : ((pickS (lookS (slotS d 0) 0) (lookS (slotS d 1) 1)).1 = 0 → (bestS d).1 = 0) ∧ ((pickS (lookS (slotS d 0) 0) (lookS (slotS d 1) 1)).1 ≠ 0 → bestS d = pickS (lookS (slotS d 0) 0) (lookS (slotS d 1) 1)) := by
  obtain ⟨a, ha⟩ : ∃ a, a = lookS (slotS d 0) 0 := ⟨_, rfl⟩
  obtain ⟨b, hb⟩ : ∃ b, b = lookS (slotS d 1) 1 := ⟨_, rfl⟩
  unfold bestS pickS
  rw [← ha, ← hb]
  by_cases h : a.1 = 0
  · rw [if_pos (.inl h)]
    refine ⟨fun h0 => ?_, fun h0 => ?_⟩
    · rw [if_neg (by omega)]; exact h
    · rw [if_pos (by omega)]
  · by_cases h2 : a.1 < b.1
    · rw [if_pos (.inr ⟨by omega, h2⟩), if_pos h2]; exact ⟨id, fun _ => rfl⟩
    · rw [if_neg (by omega), if_neg h2]; exact ⟨id, fun _ => rfl⟩
theorem pick_le {d : Dev} : (pickS (lookS (slotS d 0) 0) (lookS (slotS d 1) 1)).1 ≤ 1099511627776 := by
  have h : ∀ s i, (lookS s i).1 ≤ 1099511627776 := by
    intro s i
    unfold lookS
    split
    · exact Nat.zero_le _
    split
    · exact Nat.zero_le _
    split
    · exact Nat.zero_le _
    · dsimp only; omega
  unfold pickS
  split
  · exact h _ _
  · exact h _ _
theorem rec_f1 {d : Dev} (h : openN d ≠ 0) : recoverS d = (none0, [], [], (0, 0), openN d) := by
  unfold openN at h ⊢
  unfold recoverS
  by_cases h1 : (chk d).1 ≠ 0
  · rw [if_pos h1, if_pos h1]
  · rw [if_neg h1] at h ⊢
    rw [if_neg h1]
    by_cases h2 : d.1.length < 8
    · rw [if_pos h2, if_pos h2]
    · rw [if_neg h2] at h; exact absurd rfl h
theorem rec_f2 {d : Dev} (h : openN d = 0) (hc : d.2 ≠ []) : recoverS d = (none0, [], [], (0, 0), 12) := by
  obtain ⟨h1, h2⟩ := openN_ok h
  unfold recoverS
  rw [if_neg (by simp [h1]), if_neg (by omega), if_pos hc]
theorem rec_f3 {d : Dev} (h : openN d = 0) (hc : d.2 = []) (hb : (bestS d).1 = 0) : recoverS d = (none0, [], [], (0, 0), 10) := by
  obtain ⟨h1, h2⟩ := openN_ok h
  unfold recoverS
  rw [if_neg (by simp [h1]), if_neg (by omega), if_neg (by simp [hc]), if_pos hb]
theorem rec_done {d : Dev} {q : Nat × List UInt8} (h : openN d = 0) (hc : d.2 = []) (hb : bestS d = q) (hq : q.1 ≠ 0) : recoverS d = (doneS d, q.2, recsS d, (q.1, (endS d : Int)), 0) := by
  obtain ⟨h1, h2⟩ := openN_ok h
  unfold recoverS
  rw [if_neg (by simp [h1]), if_neg (by omega), if_neg (by simp [hc]), hb, if_neg hq]
/-- What the steps on the log find. -/
theorem rec_log {d : Dev} {q : Nat × List UInt8} (h : openN d = 0) (hb : bestS d = q) {L O : List (List UInt8)} {E : Nat} (hL : L = recsJ (regJ d (regS d.1.length))) (hO : O = ownS (putN q.1) L) (hE : E = sizeJ (L.take O.length)) :
    replayJ d (regS d.1.length) = (L, sizeJ L, 0) ∧ placesJ d (regS d.1.length) = (offsJ 0 L, 0) ∧ cleanJ d (regS d.1.length) (E : Int) = ((cleanJ d (regS d.1.length) (E : Int)).1, 0) ∧
    recsS d = O ∧ endS d = E ∧ (d.2 = [] → (cutJ d (regS d.1.length) (E : Int)).2 = 0) ∧ E ≤ 262144 ∧ sizeJ L ≤ 262144 ∧ L.length ≤ 26214 ∧ O.length ≤ L.length ∧ ∀ x ∈ L, 1 ≤ x.length ∧ x.length ≤ 60000 := by
  obtain ⟨h1, h8⟩ := openN_ok h
  have hg : Disk11.Good d := (chk_good d).1 (chk_ok h1)
  have h4 := hg.2.1
  have hrl := regJ_length hg (f := 2 * (d.1.length / 4)) (b := d.1.length - 2 * (d.1.length / 4)) (by omega)
  rw [← regS_eq] at hrl
  have hck : chkJ d (regS d.1.length) = 0 := by rw [regS_eq]; exact chkJ_zero hg (by omega) (by omega)
  have hsz : sizeJ L ≤ 64 * (d.1.length - 2 * (d.1.length / 4)) := by rw [hL, ← hrl]; exact recs_size _
  have hEl : E ≤ sizeJ L := by rw [hE]; exact sizeJ_take_le _ _
  have hpl : placedJ d (regS d.1.length) (E : Int) = 0 := by rw [regS_eq]; exact placedJ_zero hg (by omega) (by omega) (by omega)
  have hsl := size_ge L
  have hOl : O.length ≤ L.length := by rw [hO]; exact own_length _ _
  have hrs : recsS d = O := by unfold recsS; rw [hb, ← hL, ← hO]
  refine ⟨by unfold replayJ; rw [if_neg (by simp [hck]), ← hL], by unfold placesJ; rw [if_neg (by simp [hck]), ← hL], by unfold cleanJ; rw [if_neg (by simp [hpl])], hrs, ?_, ?_, by omega, by omega, by omega, hOl, ?_⟩
  · unfold endS
    rw [hrs, hb, hE, hO, own_take]
  · intro hc
    unfold cutJ
    rw [if_neg (by simp [hpl])]
    by_cases he : (E : Int) = 64 * (regS d.1.length).2
    · rw [if_pos he]
    · rw [if_neg he]
      rw [regS_eq] at he ⊢
      have e1 : (64 * ((d.1.length - 2 * (d.1.length / 4) : Nat) : Int) - (E : Int)).toNat = 64 * (d.1.length - 2 * (d.1.length / 4)) - E := by omega
      have e3 : 64 * ((2 * (d.1.length / 4) : Nat) : Int) + (E : Int) = ((64 * (2 * (d.1.length / 4)) + E : Nat) : Int) := by omega
      show (writeD d (64 * ((2 * (d.1.length / 4) : Nat) : Int) + (E : Int)) (List.replicate (64 * ((d.1.length - 2 * (d.1.length / 4) : Nat) : Int) - (E : Int)).toNat 0)).2 = 0
      have hlt : E < 64 * (d.1.length - 2 * (d.1.length / 4)) := by
        rcases Nat.lt_or_ge E (64 * (d.1.length - 2 * (d.1.length / 4))) with h | h
        · exact h
        · exact absurd (show (E : Int) = 64 * ((d.1.length - 2 * (d.1.length / 4) : Nat) : Int) by omega) he
      rw [e1, e3, writeD_ok hg (by rw [hc]; decide) _ _ (fun e => by have := congrArg List.length e; rw [List.length_replicate] at this; simp at this; omega) (by rw [List.length_replicate]; omega)]
  · intro x hx
    rw [hL] at hx
    obtain ⟨t, _, _, h3⟩ := walk_prefix ((regJ d (regS d.1.length)).length + 1) (regJ d (regS d.1.length))
    exact h3 x hx
theorem done_clean {d : Dev} {E : Nat} (hE : endS d = E) {c : Bool} (h : cleanJ d (regS d.1.length) (E : Int) = (c, 0)) : doneS d = if c = true then d else (cutJ d (regS d.1.length) (E : Int)).1 := by
  unfold doneS; rw [hE, h]
end Go.Proofs.YtmfbkelhegdmpaaGreatDoor
/- A region that may panic, in a function that defers: at the panic the frame is as it was, but for the region's own temporaries. -/
namespace Go.Proofs.YtmfbkelhegdmpaaGreatDoor
open Go
section
variable {P : Program} {ops : Array Oper} {Q : Exit → Act → World → Prop} {md : Region.Mode}
/-- The temporaries that the region does not set are as they were. -/
def TmpsAs (ops : Array Oper) (a0 a : Act) : Prop := ∀ t, (∀ o ∈ ops, o.dst ≠ some t) → a.tmps.getD t undef = a0.tmps.getD t undef
def Framed (ops : Array Oper) (a0 : Act) (Q : Exit → Act → World → Prop) : Exit → Act → World → Prop
  | .panic c, a, w => ∀ a', a'.defers = a.defers → TmpsAs ops a0 a' → Q (.panic c) a' w
  | e, a, w => Q e a w
theorem TmpsAs.put {a0 a : Act} {o : Oper} (h : TmpsAs ops a0 a) (ho : o ∈ ops) (v : Value) : TmpsAs ops a0 (a.put o.dst v) := by
  intro t ht
  have h1 := ht o ho
  unfold Act.put
  split
  · rename_i d hd
    rw [hd] at h1
    have hne : d ≠ t := fun e => h1 (by rw [e])
    rw [← h t ht]
    simp [hne]
  · exact h t ht
theorem lets_framed {a0 : Act} (h : LetsOut (Framed ops a0 Q)) : LetsOut Q := by
  unfold LetsOut at *
  exact h
theorem wpOp_framed {i : Nat} {a0 a : Act} {w : World} {K : Act → World → Prop} (hs : TmpsAs ops a0 a) (h : wpOp P ops (Framed ops a0 Q) i K a w) :
    wpOp P ops Q i (fun a' w' => K a' w' ∧ TmpsAs ops a0 a') a w := by
  unfold wpOp at *
  split
  · exact ⟨by simpa [*] using h, hs⟩
  · rename_i o ho
    have hm : o ∈ ops := Array.mem_of_getElem? ho
    simp only [ho] at h
    split
    · rename_i hw
      simp only [hw, if_true] at h
      rcases h with h | ⟨h1, h2⟩
      case inr => exact .inr ⟨h1, lets_framed h2⟩
      refine .inl ?_
      unfold Oper.wp at *
      generalize (execOp a.eval o).run P w = r at *
      cases r with
      | ok n w' =>
        cases n <;> simp only [Oper.upon] at h ⊢
        case value u => exact ⟨h, hs.put hm u⟩
        case skip => exact ⟨h, hs.put hm _⟩
        case defer d => exact ⟨h, TmpsAs.put (a := { a with defers := d :: a.defers }) hs hm _⟩
        case enter f args =>
          refine Calls.mono h fun e w'' he => ?_
          cases e with
          | returned u => exact ⟨he, hs.put hm u⟩
          | panicked c => exact he a rfl hs
          | outgrown => exact lets_framed he
        case row row args => exact Rows.mono h fun u w'' he => ⟨he, hs.put hm u⟩
      | halt x w' =>
        cases x <;> simp only [Oper.upon] at h ⊢
        case panic u => exact h a rfl hs
    · rename_i hw
      simp only [hw] at h
      exact ⟨h, hs.put hm _⟩
theorem wpAny_framed : ∀ (fuel : Nat) (listed : Array Bool) (a0 a : Act) (w : World), TmpsAs ops a0 a → wpAny P md ops (Framed ops a0 Q) fuel listed a w → wpAny P md ops Q fuel listed a w
  | 0, _, _, _, _, _, h => h
  | fuel + 1, _, a0, _, _, hs, h => ⟨h.1, fun i hi => wpOp_mono (fun a' w' h' => wpAny_framed fuel _ a0 a' w' h'.2 h'.1) (wpOp_framed hs (h.2 i hi))⟩
end
theorem framed_put {ops : Array Oper} {a0 a : Act} {Q : Exit → Act → World → Prop} {w : World} {c : _} {d : Option Tmp} {v : Value} (h : Framed ops a0 Q (.panic c) (a.put d v) w) : Framed ops a0 Q (.panic c) a w := fun a' h1 h2 => h a' (h1.trans (by unfold Act.put; split <;> rfl)) h2
theorem framed_normal {ops : Array Oper} {a0 a : Act} {Q : Exit → Act → World → Prop} {w : World} (h : Q .normal a w) : Framed ops a0 Q .normal a w := h
theorem TmpsAs.refl (ops : Array Oper) (a : Act) : TmpsAs ops a a := fun _ _ => rfl
end Go.Proofs.YtmfbkelhegdmpaaGreatDoor
/- How Format, and the reference's Format, Append and Compact end, chapter 13 (snap): two result boxes and a number. -/
namespace Go.Proofs.YtmfbkelhegdmpaaGreatDoor
open Go.RowKit Disk11 Journal12 Sum2

theorem results_cct {fn : Func} {P : Program} {p q r : Tmp} {t1 t2 : TypeId} (h : fn.results = #[.cell p t1, .cell q t2, .tmp r]) (tmps : Array Value) (w : World) (v1 v2 v3 : Value) (a b : Addr)
    (hp : tmps.getD p undef = .pointer (some a)) (hq : tmps.getD q undef = .pointer (some b)) (hr : tmps.getD r undef = v3) (h1 : (loadVar t1 a).run P w = .ok v1 w) (h2 : (loadVar t2 b).run P w = .ok v2 w) :
    (results fn tmps).run P w = .ok (.tuple #[v1, v2, v3]) w := by
  have hp' : tmps[p]?.getD undef = .pointer (some a) := by simpa using hp
  have hq' : tmps[q]?.getD undef = .pointer (some b) := by simpa using hq
  have hr' : tmps[r]?.getD undef = v3 := by simpa using hr
  simp [results, h, hp', hq', hr', asAddr, Result.andThen, h1, h2]
/-- Four stores into the two boxes. -/
abbrev fill4 (W : World) (b b' : Nat) (x y u v : Value) : World := (((W.setCell ⟨b, 0, none⟩ x).setCell ⟨b, 1, none⟩ y).setCell ⟨b', 0, none⟩ u).setCell ⟨b', 1, none⟩ v
/-- The end: the boxes' cells are just stored. -/
theorem ret4 {fn : Func} {p q r : Tmp} (hfn : fn.results = #[.cell p 29, .cell q 32, .tmp r]) {a : Act} {w W : World} {b b' k g : Nat} {z : Int} {R : Dev × LogS × Nat} {x y x0 y0 : Value} {u0 v0 : Value}
    (hp : a.tmps.getD p undef = .pointer (some ⟨b, 0, none⟩)) (hq : a.tmps.getD q undef = .pointer (some ⟨b', 0, none⟩)) (hr : a.tmps.getD r undef = .int .i64 (k : Int)) (ha : a.defers = [])
    (K2 : W.heap[b]? = some (.cells #[x0, y0] 29 (0, 0))) (K3 : W.heap[b']? = some (.cells #[u0, v0] 32 (0, 0))) (hne : b ≠ b')
    (n2 : ∀ s, Value.string s ∉ #[x0, y0].toList) (n2x : ∀ s, x ≠ .string s) (n2y : ∀ s, y ≠ .string s) (n3 : ∀ s, Value.string s ∉ #[u0, v0].toList)
    (hb : Below w.heap.size w W) (h1 : w.heap.size ≤ b) (h2 : w.heap.size ≤ b') (hd : DiskIs W R.1 (.agg #[x, y])) (e1 : R.2.1.1 = g) (e2 : R.2.1.2 = z) (e3 : R.2.2 = k) :
    bodyPost Tryz.prog fn (SnapPost w R) .ret a (fill4 W b b' x y (.int .u64 (g : Int)) (.int .i64 z)) := by
  subst e1 e2 e3
  have F2 := other_set (j := 1) (other_set (j := 0) (set_two (x' := x) (y' := y) K2) hne (.int .u64 (R.2.1.1 : Int))) hne (.int .i64 R.2.1.2)
  have F3 := set_two (x' := .int .u64 (R.2.1.1 : Int)) (y' := .int .i64 R.2.1.2) (other_set (j := 1) (other_set (j := 0) K3 hne.symm x) hne.symm y)
  have N2 := no_str K2 n2
  have N3 := no_str K3 n3
  have D := disk_aside (j := 1) (u := .int .i64 R.2.1.2) (disk_aside (j := 0) (u := .int .u64 (R.2.1.1 : Int)) (disk_aside (j := 1) (u := y) (disk_aside (j := 0) (u := x) hd N2) (nostr_set N2 n2x)) (nostr_set (nostr_set N3 n2x) n2y)) (nostr_set (nostr_set (nostr_set N3 n2x) n2y) (by simp))
  exact bodyPost_ret (results_cct hfn _ _ _ _ _ _ _ hp hq hr (load_disk F2) (load_log F3)) ha ⟨_, rfl, D, below_set (below_set (below_set (below_set hb h1) h1) h2) h2⟩
/-- The end with an error. -/
theorem ret4_none {fn : Func} {p q r : Tmp} (hfn : fn.results = #[.cell p 29, .cell q 32, .tmp r]) {a : Act} {w W : World} {b b' k : Nat} {R : Dev × LogS × Nat} {x0 y0 : Value} {u0 v0 : Value}
    (hp : a.tmps.getD p undef = .pointer (some ⟨b, 0, none⟩)) (hq : a.tmps.getD q undef = .pointer (some ⟨b', 0, none⟩)) (hr : a.tmps.getD r undef = .int .i64 (k : Int)) (ha : a.defers = [])
    (K2 : W.heap[b]? = some (.cells #[x0, y0] 29 (0, 0))) (K3 : W.heap[b']? = some (.cells #[u0, v0] 32 (0, 0))) (hne : b ≠ b')
    (n2 : ∀ s, Value.string s ∉ #[x0, y0].toList) (n3 : ∀ s, Value.string s ∉ #[u0, v0].toList)
    (hb : Below w.heap.size w W) (h1 : w.heap.size ≤ b) (h2 : w.heap.size ≤ b') (hR : R = (none0, (0, 0), k)) :
    bodyPost Tryz.prog fn (SnapPost w R) .ret a (fill4 W b b' (.slice none 0 0) (.slice none 0 0) (.int .u64 0) (.int .i64 0)) :=
  ret4 (g := 0) hfn hp hq hr ha K2 K3 hne n2 (by simp) (by simp) n3 hb h1 h2 (by rw [hR]; exact DiskIs.none _) (by rw [hR]) (by rw [hR]) (by rw [hR])
end Go.Proofs.YtmfbkelhegdmpaaGreatDoor
/- The two ways out of Append, Compact and Format, chapter 13 (snap), and Compact's law parted. -/
namespace Go.Proofs.YtmfbkelhegdmpaaGreatDoor
open Go.RowKit Disk11 Journal12 Sum2

theorem fault_leaves {fn : Func} (hfn : fn.results = #[.cell 6 29, .cell 7 32, .cell 8 23]) {tmps : Array Value} {w W : World} {b k : Nat} {R : Dev × LogS × Nat}
    (h6 : tmps.getD 6 undef = .pointer (some ⟨b + 2, 0, none⟩)) (h7 : tmps.getD 7 undef = .pointer (some ⟨b + 2 + 1, 0, none⟩)) (h8 : tmps.getD 8 undef = .pointer (some ⟨b + 2 + 2, 0, none⟩))
    (K2 : W.heap[b + 2]? = some (.cells #[.slice none 0 0, .slice none 0 0] 29 (0, 0))) (K3 : W.heap[b + 2 + 1]? = some (.cells #[.int .u64 0, .int .i64 0] 32 (0, 0))) (K4 : W.heap[b + 2 + 2]? = some (.cells #[.int .i64 0] 23 (0, 0)))
    (hb : Below w.heap.size w W) (hle : w.heap.size ≤ b) (hR : R = (none0, (0, 0), k)) :
    Leaves Tryz.prog fn tmps (SnapPost w R) [{ target := .fn (.func 46) #[], args := #[.pointer (some ⟨b + 2 + 2, 0, none⟩)] }] (.panicking [{ v := .iface 123 (.agg #[.int .i64 (k : Int)]), recovered := false }]) W := by
  have a9 := Go.Joins.below_alloc1 W (.cells #[.int .i64 (k : Int)] 123)
  refine leaves_cons (f := 46) (args := #[.pointer (some ⟨b + 2 + 2, 0, none⟩)]) (by simp) (by simp [go_sem]) ?_
  refine (given_fault ⟨b + 2 + 2, 0, none⟩ k _ [] _ (cell1 K4) (frozen1 K4)).mono ?_
  rintro e u' w'' ⟨rfl, rfl, rfl⟩
  exact ⟨_, results_c3 hfn _ _ _ _ _ _ _ _ h6 h7 h8 (load_disk (other_set (heap_below K2 a9) (by omega) _)) (load_log (other_set (heap_below K3 a9) (by omega) _)) (load_errno (cell1 (Lib.heap_setCell_same (i := 0) (heap_below K4 a9) _))), .agg #[.slice none 0 0, .slice none 0 0], by rw [hR]; rfl, by rw [hR]; exact DiskIs.none _, below_set (hb.trans (a9.mono hb.size)) (by omega)⟩
theorem done_leaves {fn : Func} (hfn : fn.results = #[.cell 6 29, .cell 7 32, .cell 8 23]) {tmps : Array Value} {w W : World} {b : Nat} {R : Dev × LogS × Nat} {x y : Value}
    (h6 : tmps.getD 6 undef = .pointer (some ⟨b + 2, 0, none⟩)) (h7 : tmps.getD 7 undef = .pointer (some ⟨b + 2 + 1, 0, none⟩)) (h8 : tmps.getD 8 undef = .pointer (some ⟨b + 2 + 2, 0, none⟩))
    (K2 : W.heap[b + 2]? = some (.cells #[x, y] 29 (0, 0))) (K3 : W.heap[b + 2 + 1]? = some (.cells #[.int .u64 (R.2.1.1 : Int), .int .i64 R.2.1.2] 32 (0, 0))) (K4 : W.heap[b + 2 + 2]? = some (.cells #[.int .i64 (R.2.2 : Int)] 23 (0, 0)))
    (hb : Below w.heap.size w W) (hd : DiskIs W R.1 (.agg #[x, y])) :
    Leaves Tryz.prog fn tmps (SnapPost w R) [{ target := .fn (.func 46) #[], args := #[.pointer (some ⟨b + 2 + 2, 0, none⟩)] }] .returning W := by
  refine leaves_cons (f := 46) (args := #[.pointer (some ⟨b + 2 + 2, 0, none⟩)]) (by simp) (by simp [go_sem]) ?_
  refine (given_idle ⟨b + 2 + 2, 0, none⟩ _).mono ?_
  rintro e u' w'' ⟨rfl, rfl, rfl⟩
  exact ⟨_, results_c3 hfn _ _ _ _ _ _ _ _ h6 h7 h8 (load_disk K2) (load_log K3) (load_errno (cell1 K4)), .agg #[x, y], rfl, hd, hb⟩
theorem cap_ok {b : Nat} (h8 : 8 ≤ b) (hb : b ≤ 4096) : (capS b).1 = ((slotN b - 17 : Nat) : Int) := by
  unfold capS slotN
  rw [if_neg (by omega)]
  dsimp only
  omega
section
variable {d : Dev} {l : LogS} {x : List UInt8}
theorem compact_f0 (h : checkS d l ≠ 0) : compactS d l x = (none0, (0, 0), checkS d l) := by unfold compactS; rw [if_pos h]
theorem compact_f1 (h : checkS d l = 0) (h1 : l.1 = 1099511627776) : compactS d l x = (none0, (0, 0), 2) := by unfold compactS; rw [if_neg (by simp [h]), if_pos h1]
theorem compact_f2 (h : checkS d l = 0) (h1 : l.1 ≠ 1099511627776) (h2 : (capS d.1.length).1 < x.length) : compactS d l x = (none0, (0, 0), 4) := by unfold compactS; rw [if_neg (by simp [h]), if_neg h1, if_pos h2]
variable {r1 r2 r3 r4 : Dev × Nat}
theorem compact_f3 (h : checkS d l = 0) (h1 : l.1 ≠ 1099511627776) (h2 : ¬ (capS d.1.length).1 < x.length) (e1 : r1 = comp1 d (l.1 + 1)) (k1 : r1.2 ≠ 0) : compactS d l x = (none0, (0, 0), r1.2) := by
  unfold compactS; rw [if_neg (by simp [h]), if_neg h1, if_neg h2, ← e1, if_pos k1]
theorem compact_f4 (h : checkS d l = 0) (h1 : l.1 ≠ 1099511627776) (h2 : ¬ (capS d.1.length).1 < x.length) (e1 : r1 = comp1 d (l.1 + 1)) (k1 : r1.2 = 0) (e2 : r2 = comp2 r1.1 d.1.length (l.1 + 1) x) (k2 : r2.2 ≠ 0) : compactS d l x = (none0, (0, 0), r2.2) := by
  unfold compactS; rw [if_neg (by simp [h]), if_neg h1, if_neg h2, ← e1, if_neg (by simp [k1]), ← e2, if_pos k2]
theorem compact_f5 (h : checkS d l = 0) (h1 : l.1 ≠ 1099511627776) (h2 : ¬ (capS d.1.length).1 < x.length) (e1 : r1 = comp1 d (l.1 + 1)) (k1 : r1.2 = 0) (e2 : r2 = comp2 r1.1 d.1.length (l.1 + 1) x) (k2 : r2.2 = 0) (e3 : r3 = comp3 r2.1 d.1.length (l.1 + 1)) (k3 : r3.2 ≠ 0) : compactS d l x = (none0, (0, 0), r3.2) := by
  unfold compactS; rw [if_neg (by simp [h]), if_neg h1, if_neg h2, ← e1, if_neg (by simp [k1]), ← e2, if_neg (by simp [k2]), ← e3, if_pos k3]
theorem compact_f6 (h : checkS d l = 0) (h1 : l.1 ≠ 1099511627776) (h2 : ¬ (capS d.1.length).1 < x.length) (e1 : r1 = comp1 d (l.1 + 1)) (k1 : r1.2 = 0) (e2 : r2 = comp2 r1.1 d.1.length (l.1 + 1) x) (k2 : r2.2 = 0) (e3 : r3 = comp3 r2.1 d.1.length (l.1 + 1)) (k3 : r3.2 = 0) (e4 : r4 = cutJ r3.1 (regS d.1.length) 0) (k4 : r4.2 ≠ 0) : compactS d l x = (none0, (0, 0), r4.2) := by
  unfold compactS; rw [if_neg (by simp [h]), if_neg h1, if_neg h2, ← e1, if_neg (by simp [k1]), ← e2, if_neg (by simp [k2]), ← e3, if_neg (by simp [k3]), ← e4, if_pos k4]
theorem compact_done (h : checkS d l = 0) (h1 : l.1 ≠ 1099511627776) (h2 : ¬ (capS d.1.length).1 < x.length) (e1 : r1 = comp1 d (l.1 + 1)) (k1 : r1.2 = 0) (e2 : r2 = comp2 r1.1 d.1.length (l.1 + 1) x) (k2 : r2.2 = 0) (e3 : r3 = comp3 r2.1 d.1.length (l.1 + 1)) (k3 : r3.2 = 0) (e4 : r4 = cutJ r3.1 (regS d.1.length) 0) (k4 : r4.2 = 0) : compactS d l x = (r4.1, (l.1 + 1, 0), 0) := by
  unfold compactS; rw [if_neg (by simp [h]), if_neg h1, if_neg h2, ← e1, if_neg (by simp [k1]), ← e2, if_neg (by simp [k2]), ← e3, if_neg (by simp [k3]), ← e4, if_neg (by simp [k4])]
end
end Go.Proofs.YtmfbkelhegdmpaaGreatDoor
/- The two ways out of Recover, chapter 13 (snap). -/
namespace Go.Proofs.YtmfbkelhegdmpaaGreatDoor
open Go.RowKit Disk11 Journal12 Sum2

/-- What Recover answers. -/
def RecPost13 (w : World) (r : Dev × List UInt8 × List (List UInt8) × LogS × Nat) (e : Ending) (w' : World) : Prop :=
  ∃ v' vl, e = .returned (.tuple #[v', .string ⟨r.2.1.toArray⟩, vl, logV r.2.2.2.1.1 r.2.2.2.1.2, .int .i64 (r.2.2.2.2 : Nat)]) ∧ DiskIs w' r.1 v' ∧ Txt w' w.heap.size vl r.2.2.1 ∧ Below w.heap.size w w'
theorem results_cttcc {fn : Func} {P : Program} {p q r s t : Tmp} {t1 t2 t3 : TypeId} (h : fn.results = #[.cell p t1, .tmp q, .tmp r, .cell s t2, .cell t t3]) (tmps : Array Value) (w : World) (v1 v2 v3 v4 v5 : Value) (a b c : Addr)
    (hp : tmps.getD p undef = .pointer (some a)) (hq : tmps.getD q undef = v2) (hr : tmps.getD r undef = v3) (hs : tmps.getD s undef = .pointer (some b)) (ht : tmps.getD t undef = .pointer (some c))
    (h1 : (loadVar t1 a).run P w = .ok v1 w) (h2 : (loadVar t2 b).run P w = .ok v4 w) (h3 : (loadVar t3 c).run P w = .ok v5 w) :
    (results fn tmps).run P w = .ok (.tuple #[v1, v2, v3, v4, v5]) w := by
  have hp' : tmps[p]?.getD undef = .pointer (some a) := by simpa using hp
  have hq' : tmps[q]?.getD undef = v2 := by simpa using hq
  have hr' : tmps[r]?.getD undef = v3 := by simpa using hr
  have hs' : tmps[s]?.getD undef = .pointer (some b) := by simpa using hs
  have ht' : tmps[t]?.getD undef = .pointer (some c) := by simpa using ht
  simp [results, h, hp', hq', hr', hs', ht', asAddr, Result.andThen, h1, h2, h3]
theorem rfault_leaves {fn : Func} (hfn : fn.results = #[.cell 2 29, .tmp 3, .tmp 4, .cell 5 32, .cell 6 23]) {tmps : Array Value} {w W : World} {b k : Nat} {R : Dev × List UInt8 × List (List UInt8) × LogS × Nat}
    (h2 : tmps.getD 2 undef = .pointer (some ⟨b + 1, 0, none⟩)) (h3 : tmps.getD 3 undef = .string ⟨#[]⟩) (h4 : tmps.getD 4 undef = .slice none 0 0) (h5 : tmps.getD 5 undef = .pointer (some ⟨b + 2, 0, none⟩)) (h6 : tmps.getD 6 undef = .pointer (some ⟨b + 2 + 1, 0, none⟩))
    (K2 : W.heap[b + 1]? = some (.cells #[.slice none 0 0, .slice none 0 0] 29 (0, 0))) (K3 : W.heap[b + 2]? = some (.cells #[.int .u64 0, .int .i64 0] 32 (0, 0))) (K4 : W.heap[b + 2 + 1]? = some (.cells #[.int .i64 0] 23 (0, 0)))
    (hb : Below w.heap.size w W) (hle : w.heap.size ≤ b) (hR : R = (none0, [], [], (0, 0), k)) :
    Leaves Tryz.prog fn tmps (RecPost13 w R) [{ target := .fn (.func 46) #[], args := #[.pointer (some ⟨b + 2 + 1, 0, none⟩)] }] (.panicking [{ v := .iface 123 (.agg #[.int .i64 (k : Int)]), recovered := false }]) W := by
  have a9 := Go.Joins.below_alloc1 W (.cells #[.int .i64 (k : Int)] 123)
  refine leaves_cons (f := 46) (args := #[.pointer (some ⟨b + 2 + 1, 0, none⟩)]) (by simp) (by simp [go_sem]) ?_
  refine (given_fault ⟨b + 2 + 1, 0, none⟩ k _ [] _ (cell1 K4) (frozen1 K4)).mono ?_
  rintro e u' w'' ⟨rfl, rfl, rfl⟩
  exact ⟨_, results_cttcc hfn _ _ _ _ _ _ _ _ _ _ h2 h3 h4 h5 h6 (load_disk (other_set (heap_below K2 a9) (by omega) _)) (load_log (other_set (heap_below K3 a9) (by omega) _)) (load_errno (cell1 (Lib.heap_setCell_same (i := 0) (heap_below K4 a9) _))), .agg #[.slice none 0 0, .slice none 0 0], .slice none 0 0, by rw [hR]; rfl, by rw [hR]; exact DiskIs.none _, by rw [hR]; exact Txt.nil _ _, below_set (hb.trans (a9.mono hb.size)) (by omega)⟩
theorem rdone_leaves {fn : Func} (hfn : fn.results = #[.cell 2 29, .tmp 3, .tmp 4, .cell 5 32, .cell 6 23]) {tmps : Array Value} {w W : World} {b : Nat} {R : Dev × List UInt8 × List (List UInt8) × LogS × Nat} {x y vl : Value}
    (h2 : tmps.getD 2 undef = .pointer (some ⟨b + 1, 0, none⟩)) (h3 : tmps.getD 3 undef = .string ⟨R.2.1.toArray⟩) (h4 : tmps.getD 4 undef = vl) (h5 : tmps.getD 5 undef = .pointer (some ⟨b + 2, 0, none⟩)) (h6 : tmps.getD 6 undef = .pointer (some ⟨b + 2 + 1, 0, none⟩))
    (K2 : W.heap[b + 1]? = some (.cells #[x, y] 29 (0, 0))) (K3 : W.heap[b + 2]? = some (.cells #[.int .u64 (R.2.2.2.1.1 : Int), .int .i64 R.2.2.2.1.2] 32 (0, 0))) (K4 : W.heap[b + 2 + 1]? = some (.cells #[.int .i64 (R.2.2.2.2 : Int)] 23 (0, 0)))
    (hb : Below w.heap.size w W) (hd : DiskIs W R.1 (.agg #[x, y])) (hl : Txt W w.heap.size vl R.2.2.1) :
    Leaves Tryz.prog fn tmps (RecPost13 w R) [{ target := .fn (.func 46) #[], args := #[.pointer (some ⟨b + 2 + 1, 0, none⟩)] }] .returning W := by
  refine leaves_cons (f := 46) (args := #[.pointer (some ⟨b + 2 + 1, 0, none⟩)]) (by simp) (by simp [go_sem]) ?_
  refine (given_idle ⟨b + 2 + 1, 0, none⟩ _).mono ?_
  rintro e u' w'' ⟨rfl, rfl, rfl⟩
  exact ⟨_, results_cttcc hfn _ _ _ _ _ _ _ _ _ _ h2 h3 h4 h5 h6 (load_disk K2) (load_log K3) (load_errno (cell1 K4)), .agg #[x, y], vl, rfl, hd, hl, hb⟩
/-- A store into a block that holds no string leaves a row of texts as it is. -/
theorem row_aside {w : World} {v u : Value} {b j n : Nat} {l : List (List UInt8)} (h : Row w 1 v n (strVals l)) (hb : NoStr w b) : Row (w.setCell ⟨b, j, none⟩ u) 1 v n (strVals l) := h.aside hb (strVals_some _)
end Go.Proofs.YtmfbkelhegdmpaaGreatDoor
