/- The walk of Text, chapter 3. -/
import Derived.Test.YtbcofimmfbmkoaaDoorTextA
import Derived.Test.YtbcofimmfbmkoaaDoorShelf
import Derived.Lib.Join
namespace Go.Proofs.YtbcofimmfbmkoaaDoor
open Go.RowKit Go.Shelf Words3

theorem join_sp : ∀ l : List (List UInt8), Lib.join l [32] = joinSp l
  | [] => rfl
  | [x] => Lib.join_one x [32]
  | x :: y :: l => by
    have ih := join_sp (y :: l)
    show _ = x ++ 32 :: joinSp (y :: l)
    rw [← ih]
    unfold Lib.join
    simp [List.intercalate]
/-- Words' forms joined by blanks: strings.Join. -/
theorem join_any (W : World) (B : Nat) (v : Value) (ws : List Wd) (h : Txt W B v (ws.map formW)) (h0 : ws ≠ []) (hn : ws.length ≤ 100000) (hl : (lineF ws).length ≤ 140737488355328) :
    Calls Tryd.prog 45 #[v, .string ⟨#[32]⟩] W fun e w' => e = .returned (.string ⟨(lineF ws).toArray⟩) ∧ Below W.heap.size W w' := by
  rcases h.form with ⟨_, h1⟩ | ⟨g, cap, rfl, hB⟩
  · exact absurd (List.map_eq_nil_iff.1 h1) h0
  · have hml : (ws.map formW).length = ws.length := List.length_map _
    have hmm : ((ws.map formW).map (fun b => (⟨b.toArray⟩ : ByteArray))).map (fun x => x.data.toList) = ws.map formW := by rw [List.map_map]; simp
    have hxs : ((ws.map formW).map (fun b => (⟨b.toArray⟩ : ByteArray))).length = (ws.map formW).length := List.length_map _
    have hcell : ∀ (j : Nat) x, ((ws.map formW).map (fun b => (⟨b.toArray⟩ : ByteArray)))[j]? = some x → W.cell? ⟨g, 0 + j, none⟩ = some (.string x) := fun j x hx => by
      rw [List.getElem?_map] at hx
      obtain ⟨y, h3, h4⟩ := Option.map_eq_some_iff.1 hx
      obtain ⟨h5, h6⟩ := List.getElem?_eq_some_iff.1 h3
      rw [Nat.zero_add, h.cell j h5, h6, h4]
    have hlt : g < W.heap.size := by
      rcases h.2 with ⟨h1, _⟩ | ⟨g', cap', cur, h1, _, hh, _⟩
      · cases h1
      · cases h1
        exact (Array.getElem?_eq_some_iff.1 hh).1
    have hcap : (ws.map formW).length ≤ cap := by
      rcases h.2 with ⟨h1, _⟩ | ⟨g', cap', cur, h1, _, hh, hle, _⟩
      · cases h1
      · cases h1; exact hle
    have hj : Lib.join (((ws.map formW).map (fun b => (⟨b.toArray⟩ : ByteArray))).map (fun x => x.data.toList)) (⟨#[32]⟩ : ByteArray).data.toList = lineF ws := by
      rw [hmm]; exact join_sp _
    have := Tryd.strings_Join g 0 cap ((ws.map formW).map (fun b => (⟨b.toArray⟩ : ByteArray))) ⟨#[32]⟩ W hcell hlt (by rw [hxs, hml]; omega) (by rw [hxs]; exact hcap) (by rw [hj]; exact hl)
    rw [hj, hxs] at this
    exact this
theorem formW_snoc (ws : List Wd) (k : Nat) (h : k < ws.length) : (ws.take (k + 1)).map formW = (ws.take k).map formW ++ [formW ws[k]] := by
  rw [List.take_succ_eq_append_getElem h, List.map_append]; rfl

theorem Txt.len {w : World} {B n m : Nat} {ad : Option Addr} {c : Nat} {l : List (List UInt8)} (h : m = n) (ht : Txt w B (.slice ad m c) l) : Txt w B (.slice ad n c) l := h ▸ ht

set_option maxHeartbeats 10000000 in
set_option maxRecDepth 100000 in
theorem Text_any (W : World) (v : Value) (rs : List Rw) (hv : RowsAt W v rs) (hf : Fit rs) (hn : rs.length ≤ 100000) :
    Calls Tryd.prog 29 #[v] W fun e w' => e = .returned (.tuple #[.string ⟨(textF rs).text.toArray⟩, .int .i64 ((textF rs).err : Int)]) ∧ Below W.heap.size W w' := by
  obtain ⟨ad, c, rfl, hc⟩ := hv.slice
  obtain ⟨R, hR⟩ : ∃ R, R = textF rs := ⟨_, rfl⟩
  rw [← hR]
  have HV := Lib.hid hv
  have HR := Lib.hid (show R = textGo (rs.drop 0) [] from hR)
  clear hR hv
  go_enter Tryd.func29, Tryd.ntmps29
  go_wp2_with fail
  go_loopw [4, 14] (fun o a wr => ∃ (i : Nat) (out : List UInt8), a = .int .i64 i ∧ o = .string ⟨out.toArray⟩ ∧ i ≤ rs.length ∧ out.length ≤ 20000 ∧ Below W.heap.size W wr ∧ Hid (R = textGo (rs.drop i) out)) (fun _ a _ => rs.length - (intOf a).toNat)
  case atStart => exact ⟨0, [], rfl, rfl, Nat.zero_le _, Nat.zero_le _, Below.refl _ _, HR⟩
  case round =>
    obtain ⟨i, out, rfl, rfl, hi, ho, hbl, hRi⟩ := hrel
    obtain ⟨V, rfl⟩ : ∃ V, V = wr := ⟨wr, rfl⟩
    clear HR
    have hbw := hbl.size
    have d0 : (0 : Int) ≤ (i : Int) := by omega
    rcases Nat.lt_or_ge i rs.length with hil | hig
    · have d1 : (i : Int) < rs.length := by omega
      have d2 := lt_t (a := (i : Int)) (b := rs.length) (by omega)
      obtain ⟨hm, hx⟩ := hf rs[i] (List.getElem_mem hil)
      obtain ⟨a, u, rfl, x0, x1, hw⟩ := (HV.out.below hbl).row (List.getElem?_eq_getElem hil)
      have hstep := hRi.out.trans (textGo_drop rs i hil out)
      have hllen := lineF_len rs[i].words hx
      obtain ⟨r, hr⟩ : ∃ r, r = rs[i] := ⟨_, rfl⟩
      rw [← hr] at hstep hm hx hw x0 hllen
      clear hr
      obtain ⟨ad2, c2, rfl, hc2⟩ := Row.slice hw
      have hba := Go.Joins.below_alloc1 V (.cells #[.int .i64 (r.at_ : Int), .slice ad2 r.words.length c2] 39)
      have hbV := hbl.trans (hba.mono hbw)
      have hW := Lib.hid (WordsAt.below hw hba)
      by_cases hnil : r.words = []
      · rw [if_pos hnil] at hstep
        have hS := Lib.hid hstep
        have d3 : ((r.words.length : Int) == 0) = true := by rw [hnil]; rfl
        clear hstep hRi hllen hw
        go_wp2_with fail
        refine bodyPost_ret (results_tmp2 rfl _ _ _) rfl ?_
        rw [hS.out]
        exact ⟨rfl, hbl.trans ((Go.Joins.below_alloc1 V _).mono hbw)⟩
      · rw [if_neg hnil] at hstep
        have d3 : ((r.words.length : Int) == 0) = false := by
          rw [beq_eq_false_iff_ne]; intro e; exact hnil (List.length_eq_zero_iff.1 (by omega))
        have hS := Lib.hid hstep
        have HN := Lib.hid hnil
        clear hstep hw hnil
        go_wp2_with fail
        generalize World.alloc V _ = V1 at *
        have hbV1 := hbV.size
        go_loopw [7, 25] (fun l b wr => ∃ k : Nat, b = .int .i64 k ∧ Txt wr V1.heap.size l ((r.words.take k).map formW) ∧ k ≤ r.words.length ∧ Hid (Below V1.heap.size V1 wr ∧ ∀ y ∈ r.words.take k, keyBad y = false)) (fun _ b _ => r.words.length - (intOf b).toNat)
        case atStart => exact ⟨0, rfl, Txt.nil _ _, Nat.zero_le _, Lib.hid ⟨Below.refl _ _, by simp⟩⟩
        case round =>
          obtain ⟨k, rfl, hT, hk, hI⟩ := hrel
          obtain ⟨V2, rfl⟩ : ∃ V2, V2 = wr := ⟨wr, rfl⟩
          have e0 : (0 : Int) ≤ (k : Int) := by omega
          have hkl := hllen k hk
          have hbs := hI.out.1.size
          rcases Nat.lt_or_ge k r.words.length with hkk | hkg
          · have d6 : (k : Int) < r.words.length := by omega
            have hx2 := hx _ (List.getElem_mem hkk)
            obtain ⟨a2, rfl, z0, z1, z2⟩ := (WordsAt.below hW.out hI.out.1).word (List.getElem?_eq_getElem hkk)
            obtain ⟨x, hxe⟩ : ∃ x, x = r.words[k] := ⟨_, rfl⟩
            have hany := any_of r.words k hkk
            have hgn := good_next r.words k hkk hI.out.2
            have hln := formW_snoc r.words k hkk
            rw [← hxe] at hany hgn hln hx2 z0 z1 z2
            clear hxe
            have HL := Lib.hid hln
            have HG := Lib.hid hgn
            have HA := Lib.hid hany
            clear hln hgn hany
            have hke : x.key.isEmpty = decide (x.key = []) := by cases x.key <;> rfl
            have HQ := Lib.hid (fun W => show Calls Tryd.prog 19 #[.string ⟨x.text.toArray⟩] W fun e w' => e = .returned (.string ⟨(quoteF x.text).toArray⟩) ∧ Below W.heap.size W w' from Quote_any ⟨x.text.toArray⟩ (show x.text.length ≤ 100000 by omega) W)
            have hql := quoteF_len x.text
            have HNm := Lib.hid (fun W => show Calls Tryd.prog 21 #[.string ⟨x.key.toArray⟩] W fun e w' => e = .returned (.bool (nameB x.key)) ∧ Below W.heap.size W w' from Name_any ⟨x.key.toArray⟩ (show x.key.length ≤ 1000000 by omega) W)
            have hw0 := World.alloc_heap_new V2 (.cells #[.int .i64 (x.at_ : Int), .string ⟨x.key.toArray⟩, .string ⟨x.text.toArray⟩] 46)
            have hwb := Go.Joins.below_alloc1 V2 (.cells #[.int .i64 (x.at_ : Int), .string ⟨x.key.toArray⟩, .string ⟨x.text.toArray⟩] 46)
            have HW0 := Lib.hid (And.intro hw0 hwb)
            clear hw0 hwb
            go_wp2_with fail
            refine (HQ.out _).mono ?_
            rintro e w3 ⟨rfl, hb⟩
            have hb3 := HW0.out.2.trans (hb.mono HW0.out.2.size)
            have h3 := heap_below HW0.out.1 hb
            obtain ⟨p0, p1, p2, _⟩ := cell3 h3
            have H3 := Lib.hid h3
            have hT3 := hT.below hb3
            have hB3 := Lib.hid (hI.out.1.trans (hb3.mono hbs))
            have hs3 := hB3.out.size
            clear h3 hb hb3 HQ HW0
            by_cases hk0 : x.key = []
            · rw [decide_eq_true hk0] at hke
              have hkb : keyBad x = false := by rw [keyBad_eq, hke]; rfl
              have HF := Lib.hid (formW_none x hk0)
              have hS2 := Lib.hid (HG.out hkb)
              clear HNm HA HG hkb
              go_wp2_with (at_builtin; refine app_str (n := quoteF x.text) rfl rfl V1.heap.size rfl hT3 rfl (by rw [List.length_map, List.length_take]; omega) hs3 ?_; intro g cap w6 t6 b6 g6 _)
              exact ⟨⟨k + 1, by go_num, by rw [HL.out, HF.out]; exact Txt.len (by rw [List.length_map, List.length_take]; omega) t6, hkk, Lib.hid ⟨hB3.out.trans b6, hS2.out⟩⟩, by simp only [intOf]; omega⟩
            · rw [decide_eq_false hk0] at hke
              have HF := Lib.hid (formW_key x hk0)
              have HK := Lib.hid hk0
              clear hk0
              cases hnm : nameB x.key with
              | true =>
                have hkb : keyBad x = false := by rw [keyBad_eq, hke, hnm]; rfl
                have hS2 := Lib.hid (HG.out hkb)
                rw [hnm] at HNm
                clear HA HG hkb hnm
                go_wp2_with fail
                refine (HNm.out _).mono ?_
                rintro e w4 ⟨rfl, hb⟩
                have h4 := heap_below H3.out hb
                obtain ⟨p0, p1, p2, _⟩ := cell3 h4
                have hT4 := hT3.below hb
                have hB4 := Lib.hid (hB3.out.trans (hb.mono hs3))
                have hs4 := hB4.out.size
                have hfm := Lib.hid (show ((⟨x.key.toArray⟩ : ByteArray) ++ ⟨#[61]⟩) ++ ⟨(quoteF x.text).toArray⟩ = ⟨(formW x).toArray⟩ by rw [HF.out, str_app, str_app]; simp)
                clear h4 hb hT3 HNm
                go_wp2_with (at_builtin; rw [hfm.out]; refine app_str (n := formW x) rfl rfl V1.heap.size rfl hT4 rfl (by rw [List.length_map, List.length_take]; omega) hs4 ?_; intro g cap w6 t6 b6 g6 _)
                exact ⟨⟨k + 1, by go_num, by rw [HL.out]; exact Txt.len (by rw [List.length_map, List.length_take]; omega) t6, hkk, Lib.hid ⟨hB4.out.trans b6, hS2.out⟩⟩, by simp only [intOf]; omega⟩
              | false =>
                have hkb : keyBad x = true := by rw [keyBad_eq, hke, hnm]; rfl
                have hS2 := Lib.hid (show R = ⟨[], 6⟩ by rw [hS.out, if_pos (HA.out hkb)])
                rw [hnm] at HNm
                clear HG hkb hnm HA
                go_wp2_with fail
                refine (HNm.out _).mono ?_
                rintro e w4 ⟨rfl, hb⟩
                go_wp2_with fail
                refine bodyPost_ret (results_tmp2 rfl _ _ _) rfl ?_
                rw [hS2.out]
                exact ⟨rfl, hbV.trans ((hB3.out.trans (hb.mono hs3)).mono hbV1)⟩
          · obtain rfl : k = r.words.length := by omega
            have d6 := lt_f (a := (r.words.length : Int)) (b := r.words.length) (by omega)
            have hgood := hI.out.2
            rw [List.take_length] at hgood hkl hT
            have hstep := hS.out
            rw [any_none _ hgood] at hstep
            simp only [Bool.false_eq_true, if_false] at hstep
            have hb3 := hbV.trans (hI.out.1.mono hbV1)
            have hbw3 := hb3.size
            have HJ := Lib.hid (join_any V2 V1.heap.size u7 r.words hT HN.out hm (by omega))
            obtain ⟨L, hL⟩ : ∃ L, L = lineF r.words := ⟨_, rfl⟩
            rw [← hL] at hstep hkl HJ
            clear hL hgood
            rw [List.length_append, List.length_append, List.length_cons, List.length_nil] at hstep
            have HS := Lib.hid hstep
            clear hstep hS
            by_cases c1 : 1000 < L.length
            · have hS2 := Lib.hid (show R = ⟨[], 4⟩ by rw [HS.out, if_pos (.inl c1)])
              have d8 := lt_t (a := 1000) (b := (L.length : Int)) (by omega)
              go_wp2_with fail
              refine HJ.out.mono ?_
              rintro e w4 ⟨rfl, hb⟩
              go_wp2_with fail
              refine bodyPost_ret (results_tmp2 rfl _ _ _) rfl ?_
              rw [hS2.out]
              exact ⟨rfl, hb3.trans (hb.mono hbw3)⟩
            · have d8 := lt_f (a := 1000) (b := (L.length : Int)) (by omega)
              by_cases c2 : 20000 < out.length + (L.length + 1)
              · have hS2 := Lib.hid (show R = ⟨[], 4⟩ by rw [HS.out, if_pos (.inr c2)])
                go_wp2_with fail
                refine HJ.out.mono ?_
                rintro e w4 ⟨rfl, hb⟩
                go_wp2_with fail
                refine bodyPost_ret (results_tmp2 rfl _ _ _) rfl ?_
                rw [hS2.out]
                exact ⟨rfl, hb3.trans (hb.mono hbw3)⟩
              · have hS2 := Lib.hid (show R = textGo (rs.drop (i + 1)) (out ++ (L ++ [10])) by rw [HS.out, if_neg (by omega)])
                go_wp2_with fail
                refine HJ.out.mono ?_
                rintro e w4 ⟨rfl, hb⟩
                go_wp2_with fail
                exact ⟨⟨i + 1, out ++ (L ++ [10]), by go_num, congrArg Value.string (by rw [str_app, str_app]), hil, by rw [List.length_append, List.length_append, List.length_cons, List.length_nil]; omega, hb3.trans (hb.mono hbw3), hS2⟩, by simp only [intOf]; omega⟩
    · obtain rfl : i = rs.length := by omega
      have d2 := lt_f (a := (rs.length : Int)) (b := rs.length) (by omega)
      have hS := Lib.hid (hRi.out.trans (textGo_done rs out))
      go_wp2_with fail
      refine bodyPost_ret (results_tmp2 rfl _ _ _) rfl ?_
      rw [hS.out]
      exact ⟨rfl, hbl⟩
end Go.Proofs.YtbcofimmfbmkoaaDoor
