/- The walk of the statement StuffFinds, chapter 10. -/
import Derived.Test.YtcpahelmaejjeaaDoorFeedL
import Derived.Test.YtcpahelmaejjeaaDoorKitP
import Derived.Test.YtcpahelmaejjeaaDoorKitI
import Derived.Test.YtcpahelmaejjeaaDoorKitM
import Derived.Test.YtcpahelmaejjeaaDoorFindPlain
import Derived.Deep.DeepCutAuto
import Derived.Deep.RegionHeld3
import Derived.Deep.RegionWith
import Derived.Laws.BitsAllLaws
namespace Go.Proofs.YtcpahelmaejjeaaDoor
open Go.RowKit Go.Shelf Stuff10

def ends (l : List (List UInt8)) : Nat → List Nat
  | 0 => []
  | k + 1 => ends l k ++ [((l.take (k + 1)).flatMap fr).length]
theorem ends_length (l : List (List UInt8)) : ∀ k, (ends l k).length = k
  | 0 => rfl
  | k + 1 => by unfold ends; rw [List.length_append, ends_length l k]; rfl
theorem ends_at (l : List (List UInt8)) : ∀ (k j : Nat) (h : j < (ends l k).length), (ends l k)[j] = ((l.take (j + 1)).flatMap fr).length
  | 0, j, h => by simp [ends] at h
  | k + 1, j, h => by
    have e : ends l (k + 1) = ends l k ++ [((l.take (k + 1)).flatMap fr).length] := rfl
    simp only [e]
    rcases Nat.lt_or_ge j (ends l k).length with hj | hj
    · rw [List.getElem_append_left hj, ends_at l k j hj]
    · rw [ends_length] at hj
      rw [ends_length] at h
      have : j = k := by omega
      subst this
      rw [List.getElem_append_right (by rw [ends_length]; exact Nat.le_refl _)]
      simp
theorem fr_length {t : List UInt8} (h : t.length ≤ 300) : (fr t).length ≤ 303 := by
  obtain ⟨_, _, h3⟩ := put_short h
  unfold fr; simp; omega
theorem frs_length : ∀ (l : List (List UInt8)), (∀ t ∈ l, t.length ≤ 300) → (l.flatMap fr).length ≤ 303 * l.length
  | [], _ => by simp
  | t :: l, h => by
    have h1 := fr_length (h t List.mem_cons_self)
    have h2 := frs_length l (fun x hx => h x (List.mem_cons_of_mem _ hx))
    rw [List.flatMap_cons, List.length_append, List.length_cons]; omega
theorem frame_short (t : List UInt8) (h : t.length ≤ 300) (W : World) : Calls Tryd.prog 17 #[.string ⟨t.toArray⟩] W fun e w' => e = .returned (.tuple #[.string ⟨(fr t).toArray⟩, .int .i64 0]) ∧ Below W.heap.size W w' := by
  have := Frame_any ⟨t.toArray⟩ W
  rw [size_mk, if_neg (by omega), if_neg (by omega)] at this
  exact this
theorem quo_in (a n : Int) (ha : I64 a) (hn : 1 ≤ n) : I64 (Int.tdiv a n) ∧ IntKind.i64.wrap (Int.tdiv a n) = Int.tdiv a n := by
  have h : I64 (Int.tdiv a n) := by
    unfold I64 at ha ⊢
    rcases Int.lt_or_le a 0 with h | h
    · have e : Int.tdiv a n = -(Int.tdiv (-a) n) := by rw [Int.neg_tdiv]; omega
      have e2 : Int.tdiv (-a) n = (-a) / n := Int.tdiv_eq_ediv_of_nonneg (by omega)
      have e3 : (-a) / n ≤ -a := Int.ediv_le_self _ (by omega)
      have e4 : 0 ≤ (-a) / n := Int.ediv_nonneg (by omega) (by omega)
      omega
    · have e2 : Int.tdiv a n = a / n := Int.tdiv_eq_ediv_of_nonneg h
      have e3 : a / n ≤ a := Int.ediv_le_self _ h
      have e4 : 0 ≤ a / n := Int.ediv_nonneg h (by omega)
      omega
  exact ⟨h, by unfold I64 at h; rw [IntKind.wrap_i64]; omega⟩
theorem xor_some (c : UInt8) (m : Nat) (hm : (m : Int) < 255) : ∃ y : UInt8, bits .xor .u8 (c.toNat : Int) ((1 : Int) + (m : Int)) = (y.toNat : Int) := by
  refine ⟨c ^^^ UInt8.ofNat (1 + m), ?_⟩
  have h := u8_xor_nat c.toNat (1 + m) (UInt8.toNat_lt c) (by omega)
  rw [UInt8.toNat_xor, UInt8.toNat_ofNat', Nat.mod_eq_of_lt (show 1 + m < 2 ^ 8 by omega)]
  rw [← h]
  rfl
theorem cat_bytes (a b : List UInt8) : (⟨a.toArray⟩ : ByteArray) ++ ⟨b.toArray⟩ = ⟨(a ++ b).toArray⟩ := by apply ByteArray.ext; simp [ByteArray.data_append]
theorem frs_next (l : List (List UInt8)) (k : Nat) (h : k < l.length) : (l.take (k + 1)).flatMap fr = (l.take k).flatMap fr ++ fr l[k] := by
  rw [List.take_succ_eq_append_getElem h, List.flatMap_append]; simp
theorem take_short {l : List (List UInt8)} {k : Nat} (h : k < l.length) (hp : ∀ t ∈ l.take k, t.length ≤ 300) (hk : l[k].length ≤ 300) : ∀ t ∈ l.take (k + 1), t.length ≤ 300 := by
  intro t ht
  rw [List.take_succ_eq_append_getElem h, List.mem_append] at ht
  rcases ht with h1 | h1
  · exact hp t h1
  · rw [List.mem_singleton.1 h1]; exact hk

set_option maxHeartbeats 4000000 in
set_option maxRecDepth 100000 in
theorem finds_any (m : Int) (l : List (List UInt8)) (g : List UInt8) (at_ : Int) (v : Value) (w : World) (hG : 1 < w.heap.size) (hm : MaxIs m w) (hat : I64 at_) (hrow : Row w 1 v l.length (strVals l)) :
    Calls Tryd.prog 7 #[v, .string ⟨g.toArray⟩, .int .i64 at_] w fun e w' => e = .returned (.bool true) ∧ Below w.heap.size w w' := by
  have HA := Lib.hid (fun W => awake_any W)
  have hR := Lib.hid hrow
  obtain ⟨na, nc, rfl, _⟩ := hrow.slice
  clear hrow
  have hG' := Lib.hid hG
  have hm' := Lib.hid hm
  have fin : (decide ((8 : Int) < l.length) = true ∨ decide ((8 : Int) < l.length) = false ∧ decide ((300 : Int) < g.length) = true) ∨ (l.length ≤ 8 ∧ g.length ≤ 300 ∧ decide ((8 : Int) < l.length) = false ∧ decide ((300 : Int) < g.length) = false) := by
    simp only [decide_eq_true_eq, decide_eq_false_iff_not]; omega
  clear hG hm
  rcases fin with f | ⟨hl8, hg3, f1, f2⟩
  · rcases f with f1 | ⟨f1, f2⟩
    all_goals
      go_enter Tryd.func7, Tryd.ntmps7
      go_wp2_with fail
      refine (HA.out _).mono ?_
      rintro e w1 ⟨rfl, b1⟩
      go_wp2
      go_ret
      exact ⟨rfl, b1⟩
  · go_enter Tryd.func7, Tryd.ntmps7
    go_wp2_with fail
    go_loopw [7, 8, 9] (fun a b i wr => ∃ k : Nat, i = .int .i64 k ∧ k ≤ l.length ∧ a = .string ⟨((l.take k).flatMap fr).toArray⟩ ∧ Ints wr w.heap.size b (ends l k) ∧ Hid (∀ t ∈ l.take k, t.length ≤ 300) ∧ Below w.heap.size w wr) (fun _ _ i _ => l.length - (intOf i).toNat)
    case atStart => exact ⟨0, rfl, Nat.zero_le _, rfl, Ints.nil _ _, Lib.hid (by simp), Below.refl _ _⟩
    case round =>
      obtain ⟨k, rfl, hk, rfl, hE, hP, hbl⟩ := hrel
      obtain ⟨ea, ec, rfl⟩ := hE.slice
      by_cases hlt : k < l.length
      · have hlt' : decide ((k : Int) < l.length) = true := by simp; omega
        have hltn : decide (k < l.length) = true := decide_eq_true hlt
        obtain ⟨ca, rfl, hca⟩ := (hR.out.below hbl).cell (strVals_at l k hlt)
        have hnx := frs_next l k hlt
        have hSl := frs_length _ hP.out
        have hTs := take_short hlt hP.out
        rw [List.length_take, Nat.min_eq_left hk] at hSl
        obtain ⟨x, hx⟩ : ∃ x, x = l[k] := ⟨_, rfl⟩
        rw [← hx] at hca hnx hTs
        have hHx := Lib.hid hx
        clear hx
        by_cases hx3 : x.length ≤ 300
        · have hx3' : decide ((300 : Int) < x.length) = false := by simp; omega
          have HF := Lib.hid (fun W => frame_short x hx3 W)
          have hT2 := Lib.hid (hTs hx3)
          have hfl := fr_length hx3
          have hcat := cat_bytes ((l.take k).flatMap fr) (fr x)
          rw [← hnx] at hcat
          have hel : (ends l k ++ [((l.take (k + 1)).flatMap fr).length]) = ends l (k + 1) := rfl
          have hen := ends_length l k
          have hnl : ((l.take (k + 1)).flatMap fr).length = ((l.take k).flatMap fr).length + (fr x).length := by rw [hnx, List.length_append]
          obtain ⟨S2, hS2e⟩ : ∃ S2, S2 = (l.take (k + 1)).flatMap fr := ⟨_, rfl⟩
          rw [← hS2e] at hcat hel hnl hnx
          have hHS2 := Lib.hid hS2e
          clear hS2e
          generalize (l.take k).flatMap fr = S at *
          generalize fr x = T at *
          have hS2 : S2.length ≤ 3000 := by omega
          rw [hen] at hE
          clear hTs hnx hnl
          go_wp2_with fail
          refine (HF.out _).mono ?_
          rintro e w1 ⟨rfl, b1⟩
          have hE1 := hE.below b1
          have hb1 := hbl.trans (b1.mono hbl.size)
          clear hca hE hbl b1
          go_wp2_with (at_builtin; refine app_int (n := S2.length) rfl rfl w.heap.size rfl hE1 (by simp [go_sem]) (by omega) hb1.size ?_; intro g' cap' w5 t5 b5 _ _)
          rw [hel] at t5
          exact ⟨⟨k + 1, rfl, hlt, by rw [hHS2.out], by rw [hen] at t5; exact t5, hT2, hb1.trans b5⟩, by simp [intOf]; omega⟩
        · have hx3' : decide ((300 : Int) < x.length) = true := by simp; omega
          clear hTs hnx
          go_wp2_with fail
          refine (HA.out _).mono ?_
          rintro e w1 ⟨rfl, b1⟩
          go_wp2
          go_ret
          exact ⟨rfl, hbl.trans (b1.mono hbl.size)⟩
      · have hlt' : decide ((k : Int) < l.length) = false := by simp; omega
        have hltn : decide (k < l.length) = false := decide_eq_false hlt
        obtain rfl : k = l.length := by omega
        have hP' : ∀ t ∈ l, t.length ≤ 300 := by have := hP.out; rw [List.take_length] at this; exact this
        rw [List.take_length]
        have hSl := frs_length l hP'
        obtain ⟨Y, n, hYn⟩ := find_garbage g l hP'
        have hc1 := cat_bytes g [0]
        have hc2 := cat_bytes (g ++ [0]) (l.flatMap fr)
        have hXl : (g ++ [0] ++ l.flatMap fr).length = g.length + 1 + (l.flatMap fr).length := by rw [List.length_append, List.length_append]; rfl
        have hGl : (g ++ [0]).length = g.length + 1 := by rw [List.length_append]; rfl
        have hXe : g ++ [0] ++ l.flatMap fr = g ++ 0 :: l.flatMap fr := by simp
        have C1 := fun W hG hm => Split_any m ⟨(g ++ [0] ++ l.flatMap fr).toArray⟩ W hG hm
        have hsm := splitR_small (g ++ [0] ++ l.flatMap fr)
        dsimp only at C1
        rw [show splitR (g ++ [0] ++ l.flatMap fr) = (splitS (g ++ [0] ++ l.flatMap fr), 0) by unfold splitR; rw [if_neg (by omega)], hXe, hYn] at C1 hsm
        dsimp only at C1 hsm
        rw [← hXe] at C1 hsm
        simp only [show ((0 : Nat) : Int) = 0 from rfl] at C1
        have hAd := drop_last Y l
        have hAl : (Y ++ l).length = Y.length + l.length := List.length_append
        have hHP := Lib.hid hP'
        clear hP' hP hYn hXe
        obtain ⟨A, hA⟩ : ∃ A, A = Y ++ l := ⟨_, rfl⟩
        rw [← hA] at C1 hsm hAd hAl
        have HC1 := Lib.hid C1
        have hen := ends_length l l.length
        have hEn := Lib.hid (fun j (h : j < (ends l l.length).length) => ends_at l l.length j h)
        clear hA C1
        obtain ⟨S, hS⟩ : ∃ S, S = l.flatMap fr := ⟨_, rfl⟩
        rw [← hS] at hSl hc2 hXl hsm HC1 ⊢
        have hSS := Lib.hid hS
        clear hS
        generalize hXX : g ++ [0] ++ S = X at *
        generalize hGG : g ++ [0] = G at *
        clear hXX hGG
        rw [hen] at hE
        go_wp2_with fail
        refine (HC1.out _ (Nat.lt_of_lt_of_le hG'.out hbl.size) (cell_below hbl hm'.out)).mono ?_
        rintro e w1 ⟨v1, rfl, x1, b1⟩
        have hE1 := Lib.hid (hE.below b1)
        have hb1 := hbl.trans (b1.mono hbl.size)
        have r1 := Row.of_own x1
        clear hE hbl b1 x1
        obtain ⟨a1, c1, rfl, _⟩ := r1.slice
        obtain ⟨d, hd⟩ : ∃ d : Nat, d = A.length - l.length := ⟨_, rfl⟩
        obtain ⟨a2, c2, hsl, r2⟩ := part_from r1 d (by omega)
        have hAd' : A.drop d = l := by rw [hd]; exact hAd
        have hAe : A.length - d = l.length := by omega
        rw [hAe] at hsl r2
        rw [hAd'] at r2
        have hdi : (A.length : Int) - l.length = (d : Int) := by omega
        have hlA : decide ((A.length : Int) < l.length) = false := by simp; omega
        have hST := Lib.hid (fun W b => SameTexts_same l _ _ W (r2.below b) ((hR.out.below hb1).below b) (by omega))
        have hdd := Lib.hid hd
        have hAL : l.length ≤ A.length := by omega
        clear hd hAe hAd' hAd hAl
        have hlAn : decide (A.length < l.length) = false := by simp; omega
        go_wp2_with fail
        refine (hST.out _ (Below.refl _ _)).mono ?_
        rintro e w2 ⟨rfl, b2⟩
        have hb2 := hb1.trans (b2.mono hb1.size)
        have hE2 := Lib.hid (hE1.out.below b2)
        clear hb1 hE1 b2 r1 r2 hsl hdi hlA hlAn hAL
        by_cases hS0 : S.length = 0
        · have hS0' : ((S.length : Int) == 0) = true := by simp [hS0]
          have hS0n : (S.length == 0) = true := by simp [hS0]
          clear hS0
          go_wp2_with fail
          refine (HA.out _).mono ?_
          rintro e w3 ⟨rfl, b3⟩
          go_wp2
          go_ret
          exact ⟨rfl, hb2.trans (b3.mono hb2.size)⟩
        · have hS0' : ((S.length : Int) == 0) = false := beq_eq_false_iff_ne.2 (by omega)
          have hS0n : (S.length == 0) = false := beq_eq_false_iff_ne.2 (by omega)
          go_wp2_with fail
          refine (Mod_some at_ S.length _ hat (by omega) (by omega)).mono ?_
          rintro e w3 ⟨k, hk, rfl, rfl⟩
          have hcv := fun w => run_bytes_of_string (P := Tryd.prog) w 9 39 5 ⟨S.toArray⟩ Tryd.underlying9 Tryd.underlying39 Tryd.underlying5
          go_upto_region 22 with (fail)
          clear hcv
          obtain ⟨cap, hcap⟩ : ∃ c, c = grownCap w2 S.length 0 5 := ⟨_, rfl⟩
          rw [← hcap]
          have hrow := (RowB.bytes w2 ⟨S.toArray⟩ cap 5 (bytesRow ⟨S.toArray⟩ cap).size ((bytesRow ⟨S.toArray⟩ cap).size + 1) (by unfold bytesRow; simp only [Array.size_append, Array.size_map]; exact Nat.le_add_right _ _)).drew
          have hbel : Below w2.heap.size w2 (w2.alloc (.cells (bytesRow ⟨S.toArray⟩ cap) 5 ((bytesRow ⟨S.toArray⟩ cap).size, (bytesRow ⟨S.toArray⟩ cap).size + 1))).drew := ((Below.refl _ _).alloc (Nat.le_refl _) _).drew
          dsimp only at hrow
          obtain ⟨g17, hg17⟩ : ∃ g, g = w2.heap.size := ⟨_, rfl⟩
          rw [← hg17] at hrow ⊢
          have hgh := Lib.hid hg17
          clear hg17
          generalize World.drew _ = W0 at *
          clear hcap
          have hkS : k < S.length := by omega
          obtain ⟨hc, hf⟩ := hrow k hkS
          obtain ⟨C, hC⟩ : ∃ C, C = S[k] := ⟨_, rfl⟩
          rw [← hC] at hc
          have hHC := Lib.hid hC
          obtain ⟨q1, q2⟩ := quo_in at_ S.length hat (by omega)
          generalize hq : Int.tdiv at_ S.length = q at *
          have HM := Lib.hid (fun W => Mod_some q 255 W q1 (by omega) (by omega))
          have hrw := Lib.hid hrow
          have hbl := Lib.hid hbel
          clear hC hrow hbel q1
          go_cut [16] from 108 to 122 (fun a W => ∃ y : UInt8, a = .int .i64 (k : Int) ∧ RowB W g17 (S.set k y) ∧ Below w2.heap.size w2 W)
          case first =>
            have hgo : 1 + (255 : Int) ≤ 256 := by omega
            have hmk : ∀ mm : Nat, (mm : Int) < 255 → IntKind.i64.wrap ((1 : Int) + mm) = (1 : Int) + mm := fun mm h => by rw [IntKind.wrap_i64]; omega
            go_region_with ((go_at_call 23; refine (HM.out _).mono ?_; rintro e w9 ⟨mm, hmm, rfl, rfl⟩; obtain ⟨y, hy⟩ := xor_some C mm hmm; have hu : IntKind.u8.wrap ((1 : Int) + mm) = (1 : Int) + mm := (by rw [IntKind.wrap_u8']; omega)))
            all_goals
              go_wp2_with fail
              go_meet
              exact ⟨y, rfl, hrw.out.drew.set k y, below_set hbl.out.drew (by rw [hgh.out]; exact Nat.le_refl _)⟩
          case rest =>
            obtain ⟨y, rfl, hrow, hb3⟩ := hcut
            have hb3' := hb2.trans (hb3.mono hb2.size)
            have hE3 := Lib.hid (hE2.out.below hb3)
            have hgw : g17 < wc.heap.size := by
              have := hrow k (by rw [List.length_set]; exact hkS)
              exact cell_lt this.1
            have hrw3 := Lib.hid hrow
            have HF := Lib.hid (fun hit hh h1 h2 => find_changed l hHP.out k hit y hh h1 h2)
            clear hrow hb3
            go_wp2_with fail
            go_loop [18] (fun i => ∃ hit : Nat, i = .int .i64 hit ∧ hit ≤ l.length ∧ Hid (((l.take hit).flatMap fr).length ≤ k)) (fun i => l.length - (intOf i).toNat)
            case atStart => exact ⟨0, rfl, Nat.zero_le _, Lib.hid (by simp)⟩
            case round =>
              obtain ⟨hit, rfl, hht, hh1⟩ := hrel
              have hlt : hit < l.length := by
                rcases Nat.lt_or_ge hit l.length with h | h
                · exact h
                · have := hh1.out
                  rw [List.take_of_length_le h, ← hSS.out] at this; omega
              have hlt' : decide ((hit : Int) < l.length) = true := by simp; omega
              have hltn : decide (hit < l.length) = true := decide_eq_true hlt
              have hend := hEn.out hit (by rw [hen]; exact hlt)
              rcases hE3.out.form with ⟨e1, e2⟩ | ⟨ge, ce, e1, _⟩
              · exfalso; rw [e2] at hen; simp at hen; omega
              · have hEc := hE3.out
                rw [hen] at e1
                cases e1
                have hcell := hEc.cell hit (by rw [hen]; exact hlt)
                rw [hend] at hcell
                obtain ⟨z, hz⟩ : ∃ z, z = ((l.take (hit + 1)).flatMap fr).length := ⟨_, rfl⟩
                rw [← hz] at hcell
                have hzz := Lib.hid hz
                clear hend hz hEc
                by_cases hzk : z ≤ k
                · have hzk' : decide ((z : Int) ≤ k) = true := by simp; omega
                  have hzkn : decide (z ≤ k) = true := decide_eq_true hzk
                  go_wp2_with fail
                  exact ⟨⟨hit + 1, rfl, hlt, Lib.hid (by rw [← hzz.out]; exact hzk)⟩, by simp [intOf]; omega⟩
                · have hzk' : decide ((z : Int) ≤ k) = false := by simp; omega
                  have hzkn : decide (z ≤ k) = false := decide_eq_false hzk
                  obtain ⟨Xc, nC, rC, hC⟩ := HF.out hit hlt hh1.out (by rw [← hzz.out]; omega)
                  rw [← hSS.out] at hC
                  have hcv := rowB_string (cap := cap) (n := S.length) hrw3.out (by rw [List.length_set])
                  have hSSl : (S.set k y).length = S.length := List.length_set ..
                  obtain ⟨S3, hS3⟩ : ∃ S3, S3 = S.set k y := ⟨_, rfl⟩
                  rw [← hS3] at hC hcv hSSl
                  have C2 := fun W hG hm => Split_any m ⟨S3.toArray⟩ W hG hm
                  have hsm2 := splitR_small S3
                  dsimp only at C2
                  rw [show splitR S3 = (splitS S3, 0) by unfold splitR; rw [if_neg (by omega)], hC] at C2 hsm2
                  dsimp only at C2 hsm2
                  simp only [show ((0 : Nat) : Int) = 0 from rfl] at C2
                  have t1 := take_hit l Xc (l.drop (hit + 2)) hit hht
                  have t2 := drop_last (l.take hit ++ Xc) (l.drop (hit + 2))
                  have t3 : (l.take hit ++ Xc ++ l.drop (hit + 2)).length = hit + Xc.length + (l.drop (hit + 2)).length := by simp only [List.length_append, List.length_take]; omega
                  obtain ⟨Y2, hY2⟩ : ∃ Y2, Y2 = l.take hit ++ Xc ++ l.drop (hit + 2) := ⟨_, rfl⟩
                  rw [← hY2] at t1 t2 t3 C2 hsm2
                  have HC2 := Lib.hid C2
                  have Ht := Lib.hid (And.intro t1 t2)
                  have hHS3 := Lib.hid hS3
                  have hS3l : S3.length ≤ 3000 := by omega
                  clear C2 t1 t2 hC hS3 hY2 hSSl
                  go_wp2_with fail
                  refine (HC2.out _ (Nat.lt_of_lt_of_le hG'.out hb3'.size) (cell_below hb3' hm'.out)).mono ?_
                  rintro e w5 ⟨v5, rfl, x5, b5⟩
                  have hb5 := hb3'.trans (b5.mono hb3'.size)
                  have r5 := Row.of_own x5
                  have rl := hR.out.below hb5
                  clear x5 b5 hcv
                  obtain ⟨D, hD⟩ : ∃ D, D = l.drop (hit + 2) := ⟨_, rfl⟩
                  rw [← hD] at t3 Ht
                  obtain ⟨i, hi, hil, hiD⟩ : ∃ i : Nat, min (l.length : Int) ((hit : Int) + 2) = (i : Int) ∧ i ≤ l.length ∧ l.drop i = D := by
                    by_cases h2 : hit + 2 ≤ l.length
                    · exact ⟨hit + 2, by omega, h2, hD.symm⟩
                    · exact ⟨l.length, by omega, Nat.le_refl _, by rw [hD, List.drop_of_length_le (by omega), List.drop_of_length_le (by omega)]⟩
                  have hiE : l.length - i = D.length := by rw [← hiD, List.length_drop]
                  obtain ⟨j, hj, hjl⟩ : ∃ j : Nat, (Y2.length : Int) - (D.length : Int) = (j : Int) ∧ j ≤ Y2.length := ⟨Y2.length - D.length, by omega, by omega⟩
                  have hjE : Y2.length - j = D.length := by omega
                  have hjD : Y2.drop j = D := by rw [show j = Y2.length - D.length by omega]; exact Ht.out.2
                  obtain ⟨a5, c5, rfl, _⟩ := r5.slice
                  obtain ⟨a3, c3, s3, r3⟩ := part_from rl i hil
                  obtain ⟨a8, c8, s8, r8⟩ := part_from r5 j hjl
                  obtain ⟨a6, c6, s6, r6⟩ := part_to r5 hit (by omega)
                  obtain ⟨a7, c7, s7, r7⟩ := part_to rl hit hht
                  rw [hiE] at s3 r3
                  rw [hjE] at s8 r8
                  rw [hiD] at r3
                  rw [hjD] at r8
                  rw [Ht.out.1] at r6
                  have hge : decide ((hit : Int) + (D.length : Int) ≤ (Y2.length : Int)) = true := by simp; omega
                  have hgn : decide (hit + D.length ≤ Y2.length) = true := decide_eq_true (by omega)
                  have hD8 : D.length ≤ 8 := by omega
                  have hw1 : IntKind.i64.wrap ((hit : Int) + (D.length : Int)) = (hit : Int) + (D.length : Int) := by rw [IntKind.wrap_i64]; omega
                  have hw2 : IntKind.i64.wrap (j : Int) = (j : Int) := by rw [IntKind.wrap_i64]; omega
                  have HT1 := Lib.hid (fun W b => SameTexts_same (l.take hit) _ _ W (r6.below b) (r7.below b) (by simp only [List.length_take]; omega))
                  have HT2 := Lib.hid (fun W b => SameTexts_same D _ _ W (r8.below b) (r3.below b) (by omega))
                  have ht3 := Lib.hid t3
                  have hHD := Lib.hid hD
                  clear r3 r5 r6 r7 r8 rl hiD hjD t3 hiE hjE hD
                  go_wp2_with fail
                  go_region_held3 (fun _ => True) (trivial)
                    (first
                    | (go_at_call 22; ((with_reducible refine (HT1.out _ ?_).mono ?_)); (first | exact Below.refl _ _ | exact (Below.refl _ _).drew); rintro e w10 ⟨rfl, b10⟩; have B10 : Below w5.heap.size w5 w10 := ((Below.refl _ w5).drew.trans b10))
                    | (go_at_call 22; ((with_reducible refine (HT2.out _ ?_).mono ?_)); (first | exact B10 | exact B10.drew); rintro e w11 ⟨rfl, b11⟩; have B11 : Below w5.heap.size w5 w11 := B10.trans (b11.mono B10.size))
                    | (go_at_call 11; refine (HA.out _).mono ?_; rintro e w12 ⟨rfl, b12⟩; have B12 : Below w5.heap.size w5 w12 := B11.trans (b12.mono B11.size)))
                  all_goals go_wp2
                  all_goals
                    go_ret
                    exact ⟨rfl, hb5.trans (B12.mono hb5.size)⟩
theorem findsLaw_shaped (l : List (List UInt8)) (v : Value) (g : List UInt8) (_ : g.length ≤ 140737488351232) (at_ : Int) (hwf : (Lit.int .i64 at_).wf = true) (W : World) (hrow : Row W 1 v l.length (strVals l)) (hsh : W.ShapedOpen Tryd.prog) :
    Calls Tryd.prog 7 #[v, .string ⟨g.toArray⟩, .int .i64 at_] W fun e w' => e = .returned (.bool true) ∧ Below W.heap.size W w' := by
  obtain ⟨m, hm, hG⟩ := max_shaped W hsh
  exact finds_any m l g at_ v W hG hm (I64_of hwf) hrow
end Go.Proofs.YtcpahelmaejjeaaDoor
