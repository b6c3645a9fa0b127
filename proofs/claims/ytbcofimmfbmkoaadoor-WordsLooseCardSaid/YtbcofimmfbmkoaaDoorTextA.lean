/- Texts of rows, chapter 3: how long they are; the walk of the reference's Text. -/
import Derived.Test.YtbcofimmfbmkoaaDoorWordsX
namespace Go.Proofs.YtbcofimmfbmkoaaDoor
open Go.RowKit Go.Shelf Words3

/-- Rows whose words are not too long. -/
def Fit (rs : List Rw) : Prop := ∀ r ∈ rs, r.words.length ≤ 100000 ∧ ∀ x ∈ r.words, x.key.length ≤ 100000 ∧ x.text.length ≤ 20000
theorem quoteF_len (t : List UInt8) : (quoteF t).length ≤ 2 + 4 * t.length := by
  unfold quoteF
  split
  · omega
  · have h : ∀ l : List UInt8, (l.flatMap escB).length ≤ 4 * l.length := by
      intro l
      induction l with
      | nil => simp
      | cons c l ih =>
        have := (escB_len c).2
        rw [List.flatMap_cons, List.length_append, List.length_cons]; omega
    have := h t
    unfold quotedF
    rw [List.length_cons, List.length_append]
    simp only [List.length_cons, List.length_nil]; omega
theorem formW_len (x : Wd) (h : x.key.length ≤ 100000 ∧ x.text.length ≤ 20000) : (formW x).length ≤ 200000 := by
  have := quoteF_len x.text
  unfold formW
  split
  · rw [List.nil_append]; omega
  · rw [List.length_append, List.length_append, List.length_cons, List.length_nil]; omega
theorem lineF_snoc (l : List Wd) (x : Wd) : lineF (l ++ [x]) = if l = [] then formW x else lineF l ++ 32 :: formW x := by
  unfold lineF
  rw [List.map_append, List.map_cons, List.map_nil, joinSp_snoc]
  by_cases h : l = []
  · subst h; rfl
  · rw [if_neg h, if_neg (fun e => h (List.map_eq_nil_iff.1 e))]
theorem lineF_next (ws : List Wd) (k : Nat) (h : k < ws.length) : lineF (ws.take (k + 1)) = if k = 0 then formW ws[k] else lineF (ws.take k) ++ 32 :: formW ws[k] := by
  rw [List.take_succ_eq_append_getElem h, lineF_snoc]
  by_cases hk : k = 0
  · subst hk; rw [if_pos rfl, if_pos (List.take_zero ..)]
  · rw [if_neg hk, if_neg (fun e => hk (by have := congrArg List.length e; rw [List.length_take, List.length_nil] at this; omega))]
theorem lineF_len (ws : List Wd) (h : ∀ x ∈ ws, x.key.length ≤ 100000 ∧ x.text.length ≤ 20000) : ∀ k, k ≤ ws.length → (lineF (ws.take k)).length ≤ 200001 * k
  | 0, _ => by rw [List.take_zero]; exact Nat.zero_le _
  | k + 1, hk => by
    have ih := lineF_len ws h k (by omega)
    have h1 := formW_len ws[k] (h _ (List.getElem_mem (by omega)))
    rw [lineF_next ws k (by omega)]
    split
    · omega
    · rw [List.length_append, List.length_cons]; omega
theorem textGo_drop (rs : List Rw) (i : Nat) (h : i < rs.length) (out : List UInt8) : textGo (rs.drop i) out = if rs[i].words = [] then ⟨[], 3⟩ else if rs[i].words.any keyBad = true then ⟨[], 6⟩ else
    if 1000 < (lineF rs[i].words).length ∨ 20000 < (out ++ (lineF rs[i].words ++ [10])).length then ⟨[], 4⟩ else textGo (rs.drop (i + 1)) (out ++ (lineF rs[i].words ++ [10])) := by
  rw [List.drop_eq_getElem_cons h]; rfl
theorem textGo_done (rs : List Rw) (out : List UInt8) : textGo (rs.drop rs.length) out = ⟨out, 0⟩ := by
  rw [List.drop_length]; rfl
theorem any_of (ws : List Wd) (k : Nat) (h : k < ws.length) (hb : keyBad ws[k] = true) : ws.any keyBad = true := List.any_eq_true.2 ⟨_, List.getElem_mem h, hb⟩
theorem any_none (ws : List Wd) (h : ∀ y ∈ ws, keyBad y = false) : ws.any keyBad = false := by
  rw [← Bool.not_eq_true, List.any_eq_true]
  rintro ⟨y, h1, h2⟩
  rw [h y h1] at h2; cases h2
theorem good_next (ws : List Wd) (k : Nat) (h : k < ws.length) (h1 : ∀ y ∈ ws.take k, keyBad y = false) (h2 : keyBad ws[k] = false) : ∀ y ∈ ws.take (k + 1), keyBad y = false := by
  rw [List.take_succ_eq_append_getElem h]
  intro y hy
  rcases List.mem_append.1 hy with hy | hy
  · exact h1 y hy
  · rw [List.mem_singleton] at hy; rw [hy]; exact h2
theorem str_app (a b : List UInt8) : ((⟨a.toArray⟩ : ByteArray) ++ ⟨b.toArray⟩) = ⟨(a ++ b).toArray⟩ := by
  apply ByteArray.ext
  simp
theorem keyBad_eq (x : Wd) : keyBad x = (!x.key.isEmpty && !nameB x.key) := rfl
theorem formW_none (x : Wd) (h : x.key = []) : formW x = quoteF x.text := by unfold formW; rw [if_pos h]; rfl
theorem formW_key (x : Wd) (h : x.key ≠ []) : formW x = x.key ++ 61 :: quoteF x.text := by unfold formW; rw [if_neg h]; simp

set_option maxHeartbeats 10000000 in
set_option maxRecDepth 100000 in
theorem RText_any (W : World) (v : Value) (rs : List Rw) (hv : RowsAt W v rs) (hf : Fit rs) (hn : rs.length ≤ 100000) :
    Calls Tryd.prog 30 #[v] W fun e w' => e = .returned (.tuple #[.string ⟨(textF rs).text.toArray⟩, .int .i64 ((textF rs).err : Int)]) ∧ Below W.heap.size W w' := by
  obtain ⟨ad, c, rfl, hc⟩ := hv.slice
  obtain ⟨R, hR⟩ : ∃ R, R = textF rs := ⟨_, rfl⟩
  rw [← hR]
  have HV := Lib.hid hv
  have HR := Lib.hid (show R = textGo (rs.drop 0) [] from hR)
  clear hR hv
  go_enter Tryd.func30, Tryd.ntmps30
  go_wp2_with fail
  go_loopw [4, 5] (fun o a wr => ∃ (i : Nat) (out : List UInt8), a = .int .i64 i ∧ o = .string ⟨out.toArray⟩ ∧ i ≤ rs.length ∧ out.length ≤ 20000 ∧ Below W.heap.size W wr ∧ Hid (R = textGo (rs.drop i) out)) (fun _ a _ => rs.length - (intOf a).toNat)
  case atStart => exact ⟨0, [], rfl, rfl, Nat.zero_le _, Nat.zero_le _, Below.refl _ _, HR⟩
  case round =>
    obtain ⟨i, out, rfl, rfl, hi, ho, hbl, hRi⟩ := hrel
    obtain ⟨V, rfl⟩ : ∃ V, V = wr := ⟨wr, rfl⟩
    clear HR
    have hbw := hbl.size
    have d0 : (0 : Int) ≤ (i : Int) := by omega
    rcases Nat.lt_or_ge i rs.length with hil | hig
    · have d1 : (i : Int) < rs.length := by omega
      have d2 := lt_t (a := (i : Int)) (b := rs.length) (by omega)
      obtain ⟨hm, hx⟩ := hf rs[i] (List.getElem_mem hil)
      obtain ⟨a, u, rfl, x0, x1, hw⟩ := (HV.out.below hbl).row (List.getElem?_eq_getElem hil)
      have hstep := hRi.out.trans (textGo_drop rs i hil out)
      have hllen := lineF_len rs[i].words hx
      obtain ⟨r, hr⟩ : ∃ r, r = rs[i] := ⟨_, rfl⟩
      rw [← hr] at hstep hm hx hw x0 hllen
      clear hr
      obtain ⟨ad2, c2, rfl, hc2⟩ := Row.slice hw
      by_cases hnil : r.words = []
      · rw [if_pos hnil] at hstep
        have hS := Lib.hid hstep
        have d3 : ((r.words.length : Int) == 0) = true := by rw [hnil]; rfl
        clear hstep hRi hllen
        go_wp2_with fail
        refine bodyPost_ret (results_tmp2 rfl _ _ _) rfl ?_
        rw [hS.out]
        exact ⟨rfl, hbl⟩
      · rw [if_neg hnil] at hstep
        have d3 : ((r.words.length : Int) == 0) = false := by
          rw [beq_eq_false_iff_ne]; intro e; exact hnil (List.length_eq_zero_iff.1 (by omega))
        have hS := Lib.hid hstep
        have hW := Lib.hid hw
        clear hstep hw
        go_wp2_with fail
        go_loopw [6, 7] (fun l b wr => ∃ k : Nat, b = .int .i64 k ∧ l = .string ⟨(lineF (r.words.take k)).toArray⟩ ∧ k ≤ r.words.length ∧ Hid (Below V.heap.size V wr ∧ ∀ y ∈ r.words.take k, keyBad y = false)) (fun _ b _ => r.words.length - (intOf b).toNat)
        case atStart => exact ⟨0, rfl, rfl, Nat.zero_le _, Lib.hid ⟨Below.refl _ _, by simp⟩⟩
        case round =>
          obtain ⟨k, rfl, rfl, hk, hI⟩ := hrel
          obtain ⟨V2, rfl⟩ : ∃ V2, V2 = wr := ⟨wr, rfl⟩
          have y0 := cell_below hI.out.1 x0
          have y1 := cell_below hI.out.1 x1
          have e0 : (0 : Int) ≤ (k : Int) := by omega
          have hkl := hllen k hk
          rcases Nat.lt_or_ge k r.words.length with hkk | hkg
          · have d6 : (k : Int) < r.words.length := by omega
            have hx2 := hx _ (List.getElem_mem hkk)
            obtain ⟨a2, rfl, z0, z1, z2⟩ := (WordsAt.below hW.out hI.out.1).word (List.getElem?_eq_getElem hkk)
            obtain ⟨x, hxe⟩ : ∃ x, x = r.words[k] := ⟨_, rfl⟩
            have hany := any_of r.words k hkk
            have hgn := good_next r.words k hkk hI.out.2
            have hln := lineF_next r.words k hkk
            rw [← hxe] at hany hgn hln hx2 z0 z1 z2
            clear hxe
            have HL := Lib.hid hln
            have HG := Lib.hid hgn
            have HA := Lib.hid hany
            clear hln hgn hany
            have hke : x.key.isEmpty = decide (x.key = []) := by cases x.key <;> rfl
            have HQ := Lib.hid (fun W => show Calls Tryd.prog 20 #[.string ⟨x.text.toArray⟩] W fun e w' => e = .returned (.string ⟨(quoteF x.text).toArray⟩) ∧ Below W.heap.size W w' from RQuote_any ⟨x.text.toArray⟩ (show x.text.length ≤ 100000 by omega) W)
            have hql := quoteF_len x.text
            have hcase : (x.key = [] ∨ (x.key ≠ [] ∧ nameB x.key = true)) ∨ (x.key ≠ [] ∧ nameB x.key = false) := by
              by_cases h1 : x.key = []
              · exact .inl (.inl h1)
              · cases h2 : nameB x.key with
                | true => exact .inl (.inr ⟨h1, rfl⟩)
                | false => exact .inr ⟨h1, rfl⟩
            have HN := Lib.hid (fun W => show Calls Tryd.prog 22 #[.string ⟨x.key.toArray⟩] W fun e w' => e = .returned (.bool (nameB x.key)) ∧ W = w' from RName_any ⟨x.key.toArray⟩ (show x.key.length ≤ 1000000 by omega) W)
            rcases hcase with hgood | ⟨hk0, hnm⟩
            · have hkz : (k = 0 ∧ lineF (r.words.take k) = []) ∨ 0 < k := by
                by_cases h : k = 0
                · exact .inl ⟨h, by rw [h]; rfl⟩
                · exact .inr (by omega)
              have HZ := Lib.hid hkz
              rcases hgood with hk0 | ⟨hk0, hnm⟩
              · rw [decide_eq_true hk0] at hke
                have hkb : keyBad x = false := by rw [keyBad_eq, hke]; rfl
                have HF := Lib.hid (formW_none x hk0)
                have hS2 := Lib.hid (HG.out hkb)
                clear HN HA HG hkb
                rcases Nat.eq_zero_or_pos k with hkz | hkz
                · have d7 : decide (0 < k) = false := decide_eq_false (by omega)
                  have HZ2 := Lib.hid hkz
                  clear hkz
                  go_wp2_with fail
                  refine (HQ.out _).mono ?_
                  rintro e w3 ⟨rfl, hb⟩
                  have hb3 := hI.out.1.trans (((Go.Joins.below_alloc1 V2 _).trans (hb.mono (by rw [World.size_alloc]; omega))).mono hI.out.1.size)
                  go_wp2_with fail
                  exact ⟨⟨k + 1, by go_num, congrArg Value.string (by rw [HL.out, if_pos HZ2.out, HF.out, HZ2.out]; exact str_app _ _), hkk, Lib.hid ⟨hb3, hS2.out⟩⟩, by simp only [intOf]; omega⟩
                · have d7 : decide (0 < k) = true := decide_eq_true (by omega)
                  have HZ2 := Lib.hid hkz
                  clear hkz
                  go_wp2_with fail
                  refine (HQ.out _).mono ?_
                  rintro e w3 ⟨rfl, hb⟩
                  have hb3 := hI.out.1.trans (((Go.Joins.below_alloc1 V2 _).trans (hb.mono (by rw [World.size_alloc]; omega))).mono hI.out.1.size)
                  go_wp2_with fail
                  exact ⟨⟨k + 1, by go_num, congrArg Value.string (by rw [HL.out, if_neg (by have := HZ2.out; omega), HF.out, str_app, str_app]; simp), hkk, Lib.hid ⟨hb3, hS2.out⟩⟩, by simp only [intOf]; omega⟩
              · rw [decide_eq_false hk0] at hke
                have hkb : keyBad x = false := by rw [keyBad_eq, hke, hnm]; rfl
                have HF := Lib.hid (formW_key x hk0)
                have hS2 := Lib.hid (HG.out hkb)
                rw [hnm] at HN
                have HK := Lib.hid hk0
                clear HA HG hkb hnm hk0
                rcases Nat.eq_zero_or_pos k with hkz | hkz
                · have d7 : decide (0 < k) = false := decide_eq_false (by omega)
                  have HZ2 := Lib.hid hkz
                  clear hkz
                  go_wp2_with (go_at_call 22; refine (HN.out _).mono ?_; rintro e w5 ⟨rfl, rfl⟩)
                  refine (HQ.out _).mono ?_
                  rintro e w3 ⟨rfl, hb⟩
                  have hb3 := hI.out.1.trans (((Go.Joins.below_alloc1 V2 _).trans (hb.mono (by rw [World.size_alloc]; omega))).mono hI.out.1.size)
                  go_wp2_with fail
                  exact ⟨⟨k + 1, by go_num, congrArg Value.string (by rw [HL.out, if_pos HZ2.out, HF.out, HZ2.out, str_app, str_app, str_app]; simp [lineF, joinSp]), hkk, Lib.hid ⟨hb3, hS2.out⟩⟩, by simp only [intOf]; omega⟩
                · have d7 : decide (0 < k) = true := decide_eq_true (by omega)
                  have HZ2 := Lib.hid hkz
                  clear hkz
                  go_wp2_with (go_at_call 22; refine (HN.out _).mono ?_; rintro e w5 ⟨rfl, rfl⟩)
                  refine (HQ.out _).mono ?_
                  rintro e w3 ⟨rfl, hb⟩
                  have hb3 := hI.out.1.trans (((Go.Joins.below_alloc1 V2 _).trans (hb.mono (by rw [World.size_alloc]; omega))).mono hI.out.1.size)
                  go_wp2_with fail
                  exact ⟨⟨k + 1, by go_num, congrArg Value.string (by rw [HL.out, if_neg (by have := HZ2.out; omega), HF.out, str_app, str_app, str_app, str_app]; simp), hkk, Lib.hid ⟨hb3, hS2.out⟩⟩, by simp only [intOf]; omega⟩
            · rw [decide_eq_false hk0] at hke
              have hkb : keyBad x = true := by rw [keyBad_eq, hke, hnm]; rfl
              have hS2 := Lib.hid (show R = ⟨[], 6⟩ by rw [hS.out, if_pos (HA.out hkb)])
              rw [hnm] at HN
              have hb3 := hbl.trans ((hI.out.1.trans ((Go.Joins.below_alloc1 V2 (.cells #[.int .i64 (x.at_ : Int), .string ⟨x.key.toArray⟩, .string ⟨x.text.toArray⟩] 46)).mono hI.out.1.size)).mono hbw)
              clear HG hkb hnm HA
              go_wp2_with (go_at_call 22; refine (HN.out _).mono ?_; rintro e w5 ⟨rfl, rfl⟩)
              refine bodyPost_ret (results_tmp2 rfl _ _ _) rfl ?_
              rw [hS2.out]
              exact ⟨rfl, hb3⟩
          · obtain rfl : k = r.words.length := by omega
            have d6 := lt_f (a := (r.words.length : Int)) (b := r.words.length) (by omega)
            have hgood := hI.out.2
            rw [List.take_length] at hgood hkl ⊢
            have hstep := hS.out
            rw [any_none _ hgood] at hstep
            simp only [Bool.false_eq_true, if_false] at hstep
            have hb3 := hbl.trans (hI.out.1.mono hbw)
            obtain ⟨L, hL⟩ : ∃ L, L = lineF r.words := ⟨_, rfl⟩
            rw [← hL] at hstep hkl ⊢
            clear hL hgood
            rw [List.length_append, List.length_append, List.length_cons, List.length_nil] at hstep
            have HS := Lib.hid hstep
            clear hstep hS
            by_cases c1 : 1000 < L.length
            · have hS2 := Lib.hid (show R = ⟨[], 4⟩ by rw [HS.out, if_pos (.inl c1)])
              have d8 := lt_t (a := 1000) (b := (L.length : Int)) (by omega)
              go_wp2_with fail
              refine bodyPost_ret (results_tmp2 rfl _ _ _) rfl ?_
              rw [hS2.out]
              exact ⟨rfl, hb3⟩
            · have d8 := lt_f (a := 1000) (b := (L.length : Int)) (by omega)
              by_cases c2 : 20000 < out.length + (L.length + 1)
              · have hS2 := Lib.hid (show R = ⟨[], 4⟩ by rw [HS.out, if_pos (.inr c2)])
                go_wp2_with fail
                refine bodyPost_ret (results_tmp2 rfl _ _ _) rfl ?_
                rw [hS2.out]
                exact ⟨rfl, hb3⟩
              · have hS2 := Lib.hid (show R = textGo (rs.drop (i + 1)) (out ++ (L ++ [10])) by rw [HS.out, if_neg (by omega)])
                go_wp2_with fail
                exact ⟨⟨i + 1, out ++ (L ++ [10]), by go_num, congrArg Value.string (by rw [str_app, str_app]; simp), hil, by rw [List.length_append, List.length_append, List.length_cons, List.length_nil]; omega, hb3, hS2⟩, by simp only [intOf]; omega⟩
    · obtain rfl : i = rs.length := by omega
      have d2 := lt_f (a := (rs.length : Int)) (b := rs.length) (by omega)
      have hS := Lib.hid (hRi.out.trans (textGo_done rs out))
      go_wp2_with fail
      refine bodyPost_ret (results_tmp2 rfl _ _ _) rfl ?_
      rw [hS.out]
      exact ⟨rfl, hbl⟩
end Go.Proofs.YtbcofimmfbmkoaaDoor
