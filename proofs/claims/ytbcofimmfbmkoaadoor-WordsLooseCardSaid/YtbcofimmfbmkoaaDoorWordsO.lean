/- Words and rows that are read, wherever they lie; the walk of Value, chapter 3. -/
import Derived.Test.YtbcofimmfbmkoaaDoorWordsN
namespace Go.Proofs.YtbcofimmfbmkoaaDoor
open Go.RowKit Go.Shelf Words3

theorem wcells_get : ∀ (ws : List Wd) (k j : Nat) (x : Wd), ws[k]? = some x → j < 3 → (wcells ws)[k * 3 + j]? = (wcell x)[j]?
  | [], k, j, x, h, _ => by simp at h
  | y :: ws, 0, j, x, h, hj => by
    simp only [List.getElem?_cons_zero, Option.some.injEq] at h
    subst h
    show (wcell y ++ wcells ws)[0 * 3 + j]? = _
    rw [Nat.zero_mul, Nat.zero_add, List.getElem?_append_left (by simpa [wcell] using hj)]
  | y :: ws, k + 1, j, x, h, hj => by
    rw [List.getElem?_cons_succ] at h
    show (wcell y ++ wcells ws)[(k + 1) * 3 + j]? = _
    rw [List.getElem?_append_right (by simp [wcell]; omega), show (k + 1) * 3 + j - (wcell y).length = k * 3 + j by simp [wcell]; omega]
    exact wcells_get ws k j x h hj
theorem add_more (a : Addr) (i j : Nat) (hj : j ≠ 0) : a.add (i + j) = { block := (a.add i).block, off := (a.add i).off + j } := by
  unfold Addr.add
  rw [if_neg (by omega)]
  by_cases hi : i = 0
  · simp [hi]
  · simp [hi]; omega
/-- v is a slice of words. -/
def WordsAt (w : World) (v : Value) (ws : List Wd) : Prop := Row w 3 v ws.length (wcells ws)
theorem WordsAt.below {w w' : World} {v : Value} {ws : List Wd} (h : WordsAt w v ws) (hb : Below w.heap.size w w') : WordsAt w' v ws := Row.below h hb
theorem Ws.at_ {w : World} {B : Nat} {v : Value} {ws : List Wd} (h : Ws w B v ws) : WordsAt w v ws := Row.of_own h
theorem WordsAt.word {w : World} {ad : Option Addr} {n c : Nat} {ws : List Wd} (h : WordsAt w (.slice ad n c) ws) {k : Nat} {x : Wd} (hx : ws[k]? = some x) :
    ∃ a, ad = some a ∧ w.cell? (a.add (k * 3)) = some (.int .i64 (x.at_ : Int)) ∧ w.cell? { block := (a.add (k * 3)).block, off := (a.add (k * 3)).off + 1 } = some (.string ⟨x.key.toArray⟩) ∧ w.cell? { block := (a.add (k * 3)).block, off := (a.add (k * 3)).off + 2 } = some (.string ⟨x.text.toArray⟩) := by
  obtain ⟨_, ad', c', h2, _, h4⟩ := h
  cases h2
  obtain ⟨a, ha, h0⟩ := h4 (k * 3 + 0) (.int .i64 (x.at_ : Int)) (by rw [wcells_get ws k 0 x hx (by omega)]; rfl)
  obtain ⟨a1, ha1, h1⟩ := h4 (k * 3 + 1) (.string ⟨x.key.toArray⟩) (by rw [wcells_get ws k 1 x hx (by omega)]; rfl)
  obtain ⟨a2, ha2, h2⟩ := h4 (k * 3 + 2) (.string ⟨x.text.toArray⟩) (by rw [wcells_get ws k 2 x hx (by omega)]; rfl)
  obtain rfl : a1 = a := by rw [ha] at ha1; exact (Option.some.inj ha1).symm
  obtain rfl : a2 = a1 := by rw [ha] at ha2; exact (Option.some.inj ha2).symm
  rw [add_more _ _ _ (by omega)] at h1 h2
  exact ⟨a2, ha, h0, h1, h2⟩
theorem filter_step (p : Wd → Bool) (ws : List Wd) (k : Nat) (h : k < ws.length) : (ws.take (k + 1)).filter p = (ws.take k).filter p ++ if p ws[k] = true then [ws[k]] else [] := by
  rw [List.take_succ_eq_append_getElem h, List.filter_append]
  by_cases hp : p ws[k] = true <;> simp [hp]
set_option maxHeartbeats 1000000 in
theorem Value_any (W : World) (v : Value) (at_ : Int) (ws : List Wd) (hw : WordsAt W v ws) (hn : ws.length ≤ 1000000) (key : ByteArray) (hk : key.size ≤ 1000000) :
    Calls Tryd.prog 25 #[.agg #[.int .i64 at_, v], .string key] W fun e w' => e = .returned (.tuple #[.string ⟨(valueF ws key.data.toList).text.toArray⟩, .int .i64 ((valueF ws key.data.toList).err : Int)]) ∧ Below W.heap.size W w' := by
  obtain ⟨ad, c, rfl, hc⟩ := Row.slice hw
  have b1 := Go.Joins.below_alloc1 W (.cells #[.int .i64 at_, .slice ad ws.length c] 39)
  have hr1 := World.alloc_heap_new W (.cells #[.int .i64 at_, .slice ad ws.length c] 39)
  have hw1 := Lib.hid (hw.below b1)
  have HN := Lib.hid (Name_any key hk (W.alloc (.cells #[.int .i64 at_, .slice ad ws.length c] 39)))
  have hsz : (W.alloc (.cells #[.int .i64 at_, .slice ad ws.length c] 39)).heap.size = W.heap.size + 1 := World.size_alloc ..
  obtain ⟨R, hR⟩ : ∃ R, R = valueF ws key.data.toList := ⟨_, rfl⟩
  rw [← hR]
  go_enter Tryd.func25, Tryd.ntmps25
  go_wp2_with fail
  refine HN.out.mono ?_
  clear HN
  rintro e w1 ⟨rfl, hb⟩
  have b2 := b1.trans (hb.mono (by omega))
  have hr2 := (hb.block _ (by omega)).trans hr1
  have hw2 := Lib.hid (hw1.out.below hb)
  have hs2 := hb.size
  clear hw1 hr1 hb b1
  generalize World.alloc W _ = W1 at *
  cases hnm : nameB key.data.toList with
  | false =>
    have hv : R = ⟨[], 6⟩ := by rw [hR]; unfold valueF; rw [if_pos hnm]
    clear hR
    subst hv
    go_wp2_with fail
    refine bodyPost_ret (results_tmp2 rfl _ _ _) rfl ?_
    exact ⟨rfl, b2⟩
  | true =>
    have c1 := cell2_1 hr2
    have hv : R = (match ws.filter (fun w => w.key == key.data.toList) with | [] => ⟨[], 8⟩ | [w] => ⟨w.text, 0⟩ | _ => ⟨[], 9⟩) := by rw [hR]; unfold valueF; rw [if_neg (by rw [hnm]; simp)]; rfl
    have HR := Lib.hid hv
    have HB := Lib.hid b2
    clear hR hv hw b2
    go_wp2_with fail
    go_loopw [6, 15] (fun f i wr => ∃ k : Nat, i = .int .i64 k ∧ k ≤ ws.length ∧ ((f = .int .i64 (-1) ∧ Hid ((ws.take k).filter (fun w => w.key == key.data.toList) = [])) ∨ ∃ (m : Nat) (x : Wd), f = .int .i64 m ∧ m < ws.length ∧ Hid (ws[m]? = some x) ∧ Hid ((ws.take k).filter (fun w => w.key == key.data.toList) = [x])) ∧ Below w1.heap.size w1 wr) (fun _ i _ => ws.length - (intOf i).toNat)
    case atStart => exact ⟨0, rfl, Nat.zero_le _, .inl ⟨rfl, Lib.hid rfl⟩, Below.refl _ _⟩
    case round =>
      obtain ⟨k, rfl, hk', hf, hbw⟩ := hrel
      have hcr := (hbw.block _ (by omega)).trans hr2
      have d1 := cell2_1 hcr
      rcases Nat.lt_or_ge k ws.length with hlt | hge
      · have hlt' : (k : Int) < ws.length := by omega
        have hx : ws[k]? = some ws[k] := List.getElem?_eq_getElem hlt
        obtain ⟨a, rfl, x0, x1, x2⟩ := (hw2.out.below hbw).word hx
        have hrow3 := new_cellsN wr [.int .i64 (ws[k].at_ : Int), .string ⟨ws[k].key.toArray⟩, .string ⟨ws[k].text.toArray⟩] 46 rfl
        have hfs := Lib.hid (filter_step (fun w => w.key == key.data.toList) ws k hlt)
        have hba := Go.Joins.below_alloc1 wr (.cells #[.int .i64 (ws[k].at_ : Int), .string ⟨ws[k].key.toArray⟩, .string ⟨ws[k].text.toArray⟩] 46)
        have hb3 := Lib.hid (hbw.trans (hba.mono hbw.size))
        clear hrow3 hba
        by_cases hkx : ws[k].key = key.data.toList
        · have hb : (⟨ws[k].key.toArray⟩ : ByteArray) = key := by rw [hkx]
          rw [if_pos (by rw [hkx]; simp)] at hfs
          rw [hb] at hb3
          rcases hf with ⟨rfl, hf⟩ | ⟨m, x, rfl, hm, hmx, hf⟩
          · go_wp2_with fail
            refine ⟨⟨k + 1, rfl, by omega, .inr ⟨k, ws[k], rfl, hlt, Lib.hid hx, Lib.hid (by rw [hfs.out, hf.out]; rfl)⟩, hb3.out⟩, by simp only [intOf]; omega⟩
          · have hv : R = ⟨[], 9⟩ := by
              have e : ws.filter (fun w => w.key == key.data.toList) = x :: ws[k] :: (ws.drop (k + 1)).filter (fun w => w.key == key.data.toList) := by
                conv => lhs; rw [← List.take_append_drop (k + 1) ws]
                rw [List.filter_append, hfs.out, hf.out]; rfl
              rw [HR.out, e]
            clear HR
            subst hv
            go_wp2_with fail
            refine bodyPost_ret (results_tmp2 rfl _ _ _) rfl ?_
            exact ⟨rfl, HB.out.trans (hb3.out.mono (by omega))⟩
        · have hkb : (ws[k].key == key.toList) = false := beq_eq_false_iff_ne.2 (fun e => hkx (by rw [e, ByteArray.toList_eq]))
          rw [if_neg (by simpa using hkx)] at hfs
          rcases hf with ⟨rfl, hf⟩ | ⟨m, x, rfl, hm, hmx, hf⟩
          · go_wp2_with fail
            exact ⟨⟨k + 1, rfl, by omega, .inl ⟨rfl, Lib.hid (by rw [hfs.out, hf.out]; rfl)⟩, hb3.out⟩, by simp only [intOf]; omega⟩
          · go_wp2_with fail
            exact ⟨⟨k + 1, rfl, by omega, .inr ⟨m, x, rfl, hm, hmx, Lib.hid (by rw [hfs.out, hf.out]; rfl)⟩, hb3.out⟩, by simp only [intOf]; omega⟩
      · have hks : k = ws.length := by omega
        subst hks
        have hnl : ¬ ws.length < ws.length := by omega
        rcases hf with ⟨rfl, hf⟩ | ⟨m, x, rfl, hm, hmx, hf⟩
        · have hv : R = ⟨[], 8⟩ := by rw [HR.out]; rw [← List.take_length (l := ws), hf.out]
          clear HR
          subst hv
          go_wp2_with fail
          refine bodyPost_ret (results_tmp2 rfl _ _ _) rfl ?_
          exact ⟨rfl, HB.out.trans (hbw.mono (by omega))⟩
        · have hv : R = ⟨x.text, 0⟩ := by rw [HR.out]; rw [← List.take_length (l := ws), hf.out]
          clear HR
          subst hv
          obtain ⟨a, rfl, x0, x1, x2⟩ := (hw2.out.below hbw).word hmx.out
          have hm' : (m : Int) < ws.length := by omega
          go_wp2_with fail
          refine bodyPost_ret (results_tmp2 rfl _ _ _) rfl ?_
          exact ⟨rfl, HB.out.trans (hbw.mono (by omega))⟩
end Go.Proofs.YtbcofimmfbmkoaaDoor
