/- The walk of crash, chapter 13 (snap): some crash. -/
import Derived.Test.YtmfbkelhegdmpaaGreatDoorSnLaws
import Derived.Test.YtmfbkelhegdmpaaGreatDoorSnLawE
import Derived.Test.YtmfbkelhegdmpaaGreatDoorDiskN
import Derived.Test.YtmfbkelhegdmpaaGreatDoorKitAll
namespace Go.Proofs.YtmfbkelhegdmpaaGreatDoor
open Go.RowKit Disk11 Journal12 Sum2

/-- What Crash answers, opened. -/
theorem crash_open {w : World} {D C : Dev} {v : Value} {k t : Int} (hs : crashD D k t = (C, 0)) (h : DiskIs w D v) :
    Calls Tryz.prog 28 #[v, .int .i64 k, .int .i64 t] w fun e w' => ∃ ab cb ac cc, e = .returned (.tuple #[.agg #[.slice ab C.1.length cb, .slice ac C.2.length cc], .int .i64 0]) ∧ DiskIs w' C (.agg #[.slice ab C.1.length cb, .slice ac C.2.length cc]) ∧ Below w.heap.size w w' := by
  refine (Crash_any D v k t w h).mono ?_
  rw [hs]
  rintro e w' ⟨v', rfl, h1, h2⟩
  obtain ⟨ab, cb, ac, cc, rfl, _⟩ := h1.form
  exact ⟨ab, cb, ac, cc, rfl, h1, h2⟩
theorem row_cells {w : World} {c n : Nat} {ad : Option Addr} {xs : List Value} (h : Row w 2 (.slice ad n c) n xs) (hx : 0 < xs.length) : ∃ a, ad = some a ∧ ∀ j x, xs[j]? = some x → w.cell? (a.add j) = some x := by
  obtain ⟨a, ha, _⟩ := h.cell (j := 0) (List.getElem?_eq_getElem hx)
  refine ⟨a, ha, fun j x hj => ?_⟩
  obtain ⟨a', ha', hc⟩ := h.cell hj
  rw [ha] at ha'; cases ha'; exact hc
theorem write_at {W : World} {D : Dev} {vb : Value} {ac : Option Addr} {L cc : Nat} (h : DiskIs W D (.agg #[vb, .slice ac L cc])) {k : Nat} (hk : k < D.2.length) : ∃ a, ac = some a ∧ W.cell? { block := (a.add (k * 2)).block, off := (a.add (k * 2)).off + 1 } = some (.string ⟨D.2[k].2.toArray⟩) := by
  obtain ⟨_, _, he, _, hr⟩ := h
  cases he
  obtain ⟨_, _, e, _⟩ := hr.slice
  cases e
  obtain ⟨a, ha, h1⟩ := hr.cell (wrVals_at _ k hk).2
  exact ⟨a, ha, cell_next h1⟩
set_option maxHeartbeats 4000000 in
set_option maxRecDepth 100000 in
theorem crash_some (D : Dev) (v : Value) (n : Int) (hn : I64 n) (w : World) (h : DiskIs w D v) (hl : D.2.length ≤ 1000) (hd : ∀ k (hk : k < D.2.length), (D.2[k]).2.length ≤ 30000)
    (HC : ∀ k t : Nat, k ≤ D.2.length → t ≤ (nextD D k).2.length → ∃ C, crashD D k t = ((C, []), 0)) :
    Calls Tryz.prog 33 #[v, .int .i64 n] w fun e w' => ∃ (k t : Nat) (C : List (List UInt8)) (ab : Option Addr) (cb : Nat) (ac : Option Addr) (cc : Nat), k ≤ D.2.length ∧ t ≤ (nextD D k).2.length ∧ crashD D k t = ((C, []), 0) ∧
      e = .returned (.tuple #[.agg #[.slice ab C.length cb, .slice ac 0 cc], .bool true]) ∧ DiskIs w' (C, []) (.agg #[.slice ab C.length cb, .slice ac 0 cc]) ∧ Below w.heap.size w w' := by
  have HM := Lib.hid (fun W => Mod_some n 1048576 W hn (by decide) (by decide))
  have HD := Lib.hid hd
  have HCr := Lib.hid HC
  obtain ⟨ab, cb, ac, cc, rfl, _, _, _, _⟩ := h.form
  obtain ⟨L, hL⟩ : ∃ L, L = D.2.length := ⟨_, rfl⟩
  rw [← hL] at hl h ⊢
  obtain ⟨k0, k1, _, t0⟩ := alloc2 w (.cells #[.slice ab D.1.length cb, .slice ac L cc] 29) (.cells #[.slice none 0 0, .slice none 0 0] 29)
  have d0 := h.below t0
  have HL := Lib.hid hL
  clear h hd HC hL
  go_enter Tryz.func33, Tryz.ntmps33
  go_upto_region 1 with (fail)
  generalize (w.alloc (.cells #[.slice ab D.1.length cb, .slice ac L cc] 29)).alloc (.cells #[.slice none 0 0, .slice none 0 0] 29) = W1 at *
  go_wp2_with fail
  refine (HM.out _).mono ?_
  rintro e w2 ⟨m, hm, rfl, rfl⟩
  obtain ⟨p, hp, hmp⟩ : ∃ p : Nat, p ≤ 1023 ∧ m ≤ 1024 * p + 1023 := ⟨m / 1024, by omega, by omega⟩
  clear hm HM hn
  obtain ⟨k, hkL, hk⟩ : ∃ k : Nat, k ≤ L ∧ (m : Int) % ((L : Int) + 1) = (k : Int) := ⟨m % (L + 1), Nat.lt_succ_iff.1 (Nat.mod_lt _ (Nat.succ_pos L)), rfl⟩
  have c0 := cell2_0 k0
  have c1 := cell2_1 k0
  have T0 := Lib.hid t0
  have K0 := Lib.hid k0
  have K1 := Lib.hid k1
  have D0 := Lib.hid d0
  clear t0 k0 k1
  go_upto_region 3 with (fail)
  rw [hk]
  clear hk
  have fin : ∀ (t : Nat) (C : List (List UInt8)), t ≤ (nextD D k).2.length → crashD D k t = ((C, []), 0) →
    Calls Tryz.prog 28 #[.agg #[.slice ab D.1.length cb, .slice ac L cc], .int .i64 k, .int .i64 t] W1 fun e w' => ∃ ab cb ac cc, e = .returned (.tuple #[.agg #[.slice ab C.length cb, .slice ac 0 cc], .int .i64 0]) ∧ DiskIs w' (C, []) (.agg #[.slice ab C.length cb, .slice ac 0 cc]) ∧ Below W1.heap.size W1 w' :=
    fun t C _ hc => crash_open hc D0.out
  have FIN := Lib.hid fin
  clear fin
  by_cases hlt : k < L
  · have hD : k < D.2.length := by rw [← HL.out]; exact hlt
    obtain ⟨aa, rfl, q1⟩ := write_at d0 hD
    clear d0
    have hy := HD.out k hD
    have hn : nextD D k = D.2[k] := by unfold nextD; rw [List.getElem?_eq_getElem hD]; rfl
    obtain ⟨y, hyy⟩ : ∃ y, y = D.2[k].2 := ⟨_, rfl⟩
    rw [← hyy] at q1 hy
    have hny : (nextD D k).2 = y := by rw [hn, hyy]
    obtain ⟨t, hty, ht⟩ : ∃ t : Nat, t ≤ y.length ∧ (m : Int) / 8 % ((y.length : Int) + 1) = (t : Int) := ⟨m / 8 % (y.length + 1), Nat.lt_succ_iff.1 (Nat.mod_lt _ (Nat.succ_pos _)), rfl⟩
    obtain ⟨C, hC⟩ := HCr.out k t (by rw [← HL.out]; exact hkL) (by rw [hny]; exact hty)
    have hlt' : decide ((k : Int) < (L : Int)) = true := by simp; omega
    have Fin := Lib.hid (And.intro (by rw [hny]; exact hty : t ≤ (nextD D k).2.length) hC)
    clear hC hn hny hyy hD
    go_upto_region 6 with (fail)
    rw [ht]
    have FC := Lib.hid (FIN.out t C Fin.out.1 Fin.out.2)
    clear ht
    have X0 := cell2_0 K0.out
    clear c0 c1
    have c0 := cell2_0 K0.out
    have c1 := cell2_1 K0.out
    clear X0
    go_wp2_with fail
    refine FC.out.mono ?_
    rintro e w3 ⟨a3, n3, e3, m3, rfl, d3, b3⟩
    have k9 := World.alloc_heap_new w3 (.cells #[.slice a3 C.length n3, .slice e3 0 m3] 29)
    have b4 := Go.Joins.below_alloc1 w3 (.cells #[.slice a3 C.length n3, .slice e3 0 m3] 29)
    have b34 := b3.trans (b4.mono b3.size)
    have R1 := heap_below K1.out b34
    have d4 := d3.below b4
    have b5 := T0.out.trans (b34.mono T0.out.size)
    have lt := b3.size
    have lt1 := (Array.getElem?_eq_some_iff.1 K1.out).1
    clear c0 c1 b3 b4 b34 d3
    go_upto_region 7 with (fail)
    generalize w3.alloc (.cells #[.slice a3 C.length n3, .slice e3 0 m3] 29) = W4 at *
    have c0 := cell2_0 k9
    have c1 := cell2_1 k9
    have f0 := frozen2 R1 0
    have f1 := frozen2 R1 1
    have r0 := cell2_0 R1
    have r1 := cell2_1 R1
    go_wp2
    have F1 := set_two (x' := .slice a3 C.length n3) (y' := .slice e3 0 m3) R1
    have N := no_str R1 (by simp)
    have DD := disk_aside (j := 1) (u := .slice e3 0 m3) (disk_aside (j := 0) (u := .slice a3 C.length n3) d4 N) (nostr_set N (by simp))
    exact bodyPost_ret (results_cell_tmp rfl _ _ _ _ _ _ _ rfl F1 Tryz.underlying29 rfl rfl) rfl ⟨k, _, C, _, _, _, _, hkL, Fin.out.1, Fin.out.2, rfl, DD, below_set (below_set b5 (by omega)) (by omega)⟩
  · have hkk : k = L := by omega
    obtain ⟨C, hC⟩ := HCr.out k 0 (by rw [← HL.out]; exact hkL) (Nat.zero_le _)
    have Fin := Lib.hid (And.intro (Nat.zero_le _ : 0 ≤ (nextD D k).2.length) hC)
    have hlt' : decide ((k : Int) < (L : Int)) = false := by simp; omega
    have hlt2 : decide (k < L) = false := by simp; omega
    clear hC hkk hlt d0
    go_upto_region 6 with (fail)
    have FC := Lib.hid (FIN.out 0 C Fin.out.1 Fin.out.2)
    rw [show ((0 : Nat) : Int) = 0 from rfl] at FC
    have X0 := cell2_0 K0.out
    clear c0 c1
    have c0 := cell2_0 K0.out
    have c1 := cell2_1 K0.out
    clear X0
    go_wp2_with fail
    refine FC.out.mono ?_
    rintro e w3 ⟨a3, n3, e3, m3, rfl, d3, b3⟩
    have k9 := World.alloc_heap_new w3 (.cells #[.slice a3 C.length n3, .slice e3 0 m3] 29)
    have b4 := Go.Joins.below_alloc1 w3 (.cells #[.slice a3 C.length n3, .slice e3 0 m3] 29)
    have b34 := b3.trans (b4.mono b3.size)
    have R1 := heap_below K1.out b34
    have d4 := d3.below b4
    have b5 := T0.out.trans (b34.mono T0.out.size)
    have lt := b3.size
    have lt1 := (Array.getElem?_eq_some_iff.1 K1.out).1
    clear c0 c1 b3 b4 b34 d3
    go_upto_region 7 with (fail)
    generalize w3.alloc (.cells #[.slice a3 C.length n3, .slice e3 0 m3] 29) = W4 at *
    have c0 := cell2_0 k9
    have c1 := cell2_1 k9
    have f0 := frozen2 R1 0
    have f1 := frozen2 R1 1
    have r0 := cell2_0 R1
    have r1 := cell2_1 R1
    go_wp2
    have F1 := set_two (x' := .slice a3 C.length n3) (y' := .slice e3 0 m3) R1
    have N := no_str R1 (by simp)
    have DD := disk_aside (j := 1) (u := .slice e3 0 m3) (disk_aside (j := 0) (u := .slice a3 C.length n3) d4 N) (nostr_set N (by simp))
    exact bodyPost_ret (results_cell_tmp rfl _ _ _ _ _ _ _ rfl F1 Tryz.underlying29 rfl rfl) rfl ⟨k, _, C, _, _, _, _, hkL, Fin.out.1, Fin.out.2, rfl, DD, below_set (below_set b5 (by omega)) (by omega)⟩
end Go.Proofs.YtmfbkelhegdmpaaGreatDoor
