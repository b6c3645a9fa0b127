/- The walk of DiskTorn, chapter 11 (disk). -/
import Derived.Test.YtiemlaofhmncdaaDiskTp
namespace Go.Proofs.Ytiemlaofhmncdaa
open Go.RowKit Disk11

theorem next_len {d : Dev} (h : Disk11.Good d) (k : Nat) : (nextD d k).2.length ≤ 262144 := by
  unfold nextD
  rcases Nat.lt_or_ge k d.2.length with g | g
  · rw [List.getElem?_eq_getElem g, Option.getD_some]
    have := h.2.2.2.2 _ (List.getElem_mem g)
    have h2 := h.2.1
    obtain ⟨_, a, b⟩ := this
    unfold Disk11.size at b
    omega
  · rw [List.getElem?_eq_none g]; simp

theorem byte_eq (b b0 : UInt8) : ((b.toNat : Int) == (b0.toNat : Int)) = (b == b0) := by
  rw [Bool.eq_iff_iff]
  simp only [beq_iff_eq]
  exact ⟨fun h => UInt8.toNat_inj.1 (by omega), fun h => by rw [h]⟩
set_option maxHeartbeats 8000000 in
set_option maxRecDepth 100000 in
theorem DiskTorn_any (l : List Int) (v : Value) (p0 t0 : Int) (w : World) (hp0 : I64 p0) (ht0 : I64 t0) (hl : l.length ≤ maxLen) (hwf : ∀ n ∈ l, (Lit.int .i64 n).wf = true) (hrow : Row w 1 v l.length (l.map fun n => .int .i64 n)) :
    Calls Try.prog 9 #[v, .int .i64 p0, .int .i64 t0] w fun e w' => e = .returned (.bool true) ∧ Below w.heap.size w w' := by
  have HK := Lib.hid (fun W => DiskKnown_any W)
  have HM := Lib.hid (fun W h => Made_any l v W hl hwf h)
  have hR := Lib.hid hrow
  obtain ⟨na, nc, rfl, _⟩ := hrow.slice
  clear hrow hwf hl
  go_enter Try.func9, Try.ntmps9
  go_wp2_with fail
  refine (HK.out _).mono ?_
  rintro e w1 ⟨rfl, b1⟩
  go_wp2_with fail
  refine (HM.out _ (hR.out.below b1)).mono ?_
  rintro e w2 ⟨d, ab, ac, cb, cc, rfl, d2, ⟨hg, hl1, hl2⟩, b2⟩
  have k2 := World.alloc_heap_new w2 (.cells #[.slice ab d.1.length cb, .slice ac d.2.length cc] 25)
  have a2 := Go.Joins.below_alloc1 w2 (.cells #[.slice ab d.1.length cb, .slice ac d.2.length cc] 25)
  have t2 := (andThen b1 b2).trans (a2.mono (andThen b1 b2).size)
  have d2' := d2.below a2
  have hlen := readAll_length hg
  have hg1 := hg.1
  clear d2 a2 b1 b2
  have x0 := cell2_0 k2
  have x1 := cell2_1 k2
  go_wp2_with fail
  refine (Mod_some p0 ((d.2.length : Int) + 1) _ hp0 (by omega) (by omega)).mono ?_
  rintro e w1 ⟨kp, hkp, rfl, rfl⟩
  have hkp' : kp ≤ d.2.length := by omega
  obtain ⟨ms, hms⟩ : ∃ ms, ms = (nextD d kp).2.length := ⟨_, rfl⟩
  have hmsl := next_len hg kp
  rw [← hms] at hmsl
  have hHms := Lib.hid hms
  clear hms hkp
  go_upto_if 35 with (fail)
  go_cut [9] from 36 to 43 (fun u W => u = .int .i64 (ms : Int) ∧ W = w2.alloc (.cells #[.slice ab d.1.length cb, .slice ac d.2.length cc] 25))
  case first =>
    obtain ⟨_, _, hdk, _, dck⟩ := id d2'
    cases hdk
    by_cases hlt : kp < d.2.length
    · have hlt' : decide ((kp : Int) < d.2.length) = true := by simp; omega
      obtain ⟨ya, rfl, q1⟩ := dck.cell (wrVals_at d.2 kp hlt).2
      have q1' := cell_next q1
      have hms : d.2[kp].2.length = ms := by rw [hHms.out]; unfold nextD; rw [List.getElem?_eq_getElem hlt]; rfl
      generalize d.2[kp].2 = y at q1' hms
      subst hms
      clear q1 dck
      go_wp2_with fail
      go_meet
      exact ⟨rfl, rfl⟩
    · have hlt' : decide ((kp : Int) < d.2.length) = false := by simp; omega
      have hms : ms = 0 := by rw [hHms.out]; unfold nextD; rw [List.getElem?_eq_none (by omega)]; rfl
      subst hms
      clear dck
      go_wp2_with fail
      go_meet
      exact ⟨rfl, rfl⟩
  case rest =>
    obtain ⟨rfl, rfl⟩ := hcut
    go_wp2_with fail
    refine (Mod_some t0 ((ms : Int) + 1) _ ht0 (by omega) (by omega)).mono ?_
    rintro e w1 ⟨tn, htn, rfl, rfl⟩
    have htn' : tn ≤ (nextD d kp).2.length := by rw [← hHms.out]; omega
    have hBl := crashB_len hg kp tn hkp'
    have HC := Lib.hid (fun v W h => (Crash_any d v kp tn W h).mono (fun _ _ => as_disk (nb := d.1.length) (nc := 0) 0 (crashD_ok hg kp tn hkp' htn') rfl (chunk_len hBl) rfl))
    obtain ⟨B, hB⟩ : ∃ B, B = tornB d kp tn := ⟨_, rfl⟩
    have hHf := Lib.hid (fun p b b0 hb h0 q hq => torn_fine hg kp tn p hkp' htn' b b0 hb h0 q hq)
    rw [show layF (readK d kp) (nextD d kp).1.toNat ((nextD d kp).2.take tn) = B from hB.symm] at HC hBl
    rw [← hB] at hHf
    have HY := Lib.hid (fun v W h => (Sync_any d v W h).mono (fun _ _ => as_disk (nb := d.1.length) (nc := 0) 0 (syncD_ok hg) rfl (chunk_len hlen) rfl))
    have hgs := good_chunk hlen hg1 (by omega)
    have HC2 := Lib.hid (fun v W h => (Crash_any (chunk (readAll d), []) v 0 0 W h).mono (fun _ _ => as_disk (nb := d.1.length) (nc := 0) 0 (crash_none hgs) rfl (chunk_len hlen) rfl))
    obtain ⟨S, hS⟩ : ∃ S : Dev, S = (chunk (readAll d), []) := ⟨_, rfl⟩
    have hSl : S.1.length ≤ 4 ∧ S.2.length = 0 := by rw [hS]; exact ⟨by show (chunk (readAll d)).length ≤ 4; rw [chunk_len hlen]; omega, rfl⟩
    rw [show ((chunk (readAll d), []) : Dev).1 = chunk (readAll d) from rfl, ← hS] at HC2
    rw [← hS] at HY
    have HSD := Lib.hid (fun v1 v2 W r1 r2 => SameDisk_same S v1 v2 W r1 r2 (by omega) (by omega))
    have hHB := Lib.hid hBl
    have hcl := chunk_len hBl
    have hcw := chunk_whole B
    have hcf := flatten_chunk hBl
    obtain ⟨C, hC⟩ : ∃ C, C = chunk B := ⟨_, rfl⟩
    rw [← hC] at HC hcl hcw hcf
    have hHcf := Lib.hid hcf
    have hHcl := Lib.hid hcl
    clear hB hBl hS hSl hgs hlen htn hcf hcl hC
    go_wp2_with fail
    refine (HC.out _ _ d2').mono ?_
    rintro e w3 ⟨ab3, cb3, ac3, cc3, rfl, c3, b3⟩
    have k10 := World.alloc_heap_new w3 (.cells #[.slice ab3 d.1.length cb3, .slice ac3 0 cc3] 25)
    have a3 := Go.Joins.below_alloc1 w3 (.cells #[.slice ab3 d.1.length cb3, .slice ac3 0 cc3] 25)
    have q3 := b3.trans (a3.mono b3.size)
    have k4 := heap_below k2 q3
    have t3 := t2.trans (q3.mono t2.size)
    have d3 := d2'.below q3
    have c3' := c3.below a3
    have e0 := cell2_0 k4
    have e1 := cell2_1 k4
    clear k2 t2 d2' b3 a3 q3 c3 x0 x1
    go_wp2
    generalize (w3.alloc (.cells #[.slice ab3 d.1.length cb3, .slice ac3 0 cc3] 25)) = W3 at *
    generalize w3.heap.size = g10 at *
    generalize w2.heap.size = g4 at *
    clear e0 e1
    go_loopw [12] (fun i wr => ∃ k : Nat, i = .int .i64 k ∧ k ≤ d.1.length ∧ Below W3.heap.size W3 wr) (fun i _ => d.1.length - (intOf i).toNat)
    case atStart => exact ⟨0, rfl, Nat.zero_le _, Below.refl _ _⟩
    case round =>
      obtain ⟨i, rfl, hi, hbl⟩ := hrel
      obtain ⟨Wi, rfl⟩ : ∃ W, W = wr := ⟨wr, rfl⟩
      have j4 := heap_below k4 hbl
      have j10 := heap_below k10 hbl
      have e0 := cell2_0 j4
      have e1 := cell2_1 j4
      have f0 := cell2_0 j10
      have f1 := cell2_1 j10
      by_cases hlt : i < d.1.length
      · have hlt' : decide ((i : Int) < d.1.length) = true := by simp; omega
        have hiC : i < C.length := by rw [hHcl.out]; exact hlt
        obtain ⟨_, _, hce, hcr, _⟩ := id (c3'.below hbl)
        cases hce
        obtain ⟨_, _, hde, hdr, _⟩ := id (d3.below hbl)
        cases hde
        rw [show ((C, []) : Dev).1.length = d.1.length from hHcl.out] at hcr
        obtain ⟨ca, rfl, cq⟩ := hcr.cell (strVals_at C i hiC)
        obtain ⟨da, rfl, dq⟩ := hdr.cell (strVals_at d.1 i hlt)
        have hCl := hcw _ (List.getElem_mem hiC)
        have hDl := hg.2.2.1 _ (List.getElem_mem hlt)
        have hCb := flatten_get (bs := C) hcw i
        rw [hHcf.out, List.getElem?_eq_getElem hiC] at hCb
        have hDb := flatten_get (bs := d.1) hg.2.2.1 i
        rw [List.getElem?_eq_getElem hlt] at hDb
        simp only [Option.bind_some] at hCb hDb
        obtain ⟨Ci, hCi⟩ : ∃ Ci, Ci = C[i] := ⟨_, rfl⟩
        obtain ⟨Di, hDi⟩ : ∃ Di, Di = d.1[i] := ⟨_, rfl⟩
        rw [← hCi] at cq hCl hCb
        rw [← hDi] at dq hDl hDb
        have hHCb := Lib.hid hCb
        have hHDb := Lib.hid hDb
        have h64 : ((Ci.length : Int) != 64) = false := by rw [hCl]; rfl
        have hCl' := Lib.hid hCl
        have hDl' := Lib.hid hDl
        clear hCb hDb hCi hDi hcr hdr hCl hDl
        go_wp2
        clear h64
        go_loopw [13] (fun x wr => ∃ k : Nat, x = .int .i64 k ∧ k ≤ 64 ∧ Below Wi.heap.size Wi wr) (fun x _ => 64 - (intOf x).toNat)
        case atStart => exact ⟨0, rfl, Nat.zero_le _, Below.refl _ _⟩
        case round =>
          obtain ⟨k, rfl, hk, hbk⟩ := hrel
          obtain ⟨Wk, rfl⟩ : ∃ W, W = wr := ⟨wr, rfl⟩
          by_cases hkt : k < 64
          · have hkt' : decide ((k : Int) < 64) = true := by simp; omega
            obtain ⟨p, hp⟩ : ∃ p : Nat, (64 : Int) * (i : Int) + (k : Int) = (p : Int) := ⟨64 * i + k, by omega⟩
            have hpn : p = 64 * i + k := by omega
            have m4 := heap_below j4 hbk
            have m10 := heap_below j10 hbk
            have u0 := cell2_0 m4
            have u1 := cell2_0 m10
            have cq' := cell_below hbk cq
            have dq' := cell_below hbk dq
            obtain ⟨b, hb⟩ : ∃ b, Ci[k]? = some b := ⟨_, List.getElem?_eq_getElem (by rw [hCl'.out]; exact hkt)⟩
            obtain ⟨b0, hb0⟩ : ∃ b0, Di[k]? = some b0 := ⟨_, List.getElem?_eq_getElem (by rw [hDl'.out]; exact hkt)⟩
            have i1 := str_at Ci k b hb
            have i2 := str_at Di k b0 hb0
            have hfin := Lib.hid (fun q hq => hHf.out p b b0 (by rw [hpn, hHCb.out k hkt]; exact hb) (by rw [hpn, hHDb.out k hkt]; exact hb0) q hq)
            obtain ⟨f00, hf00⟩ : ∃ f00, ((b.toNat : Int) == (b0.toNat : Int)) = f00 := ⟨_, rfl⟩
            have hfz : f00 = fineAt d p b b0 0 := by
              rw [fineAt_zero, ← hf00]; exact byte_eq b b0
            have hHz := Lib.hid hfz
            have hHpn := Lib.hid hpn
            clear hpn hfz hb0
            go_wp2
            clear hp
            go_quiet (fail)
            go_wp2
            clear i2 hf00
            have hbk0 : Below Wi.heap.size Wi (Wk.drewN nq) := below_drewN hbk nq
            generalize Wk.drewN nq = Wq at *
            have m4 := heap_below j4 hbk0
            have m10 := heap_below j10 hbk0
            have cq' := cell_below hbk0 cq
            clear u0 u1 dq' hbk
            go_loopw [15, 16] (fun f x wr => ∃ (q : Nat) (fv : Bool), f = .bool fv ∧ x = .int .i64 q ∧ q ≤ d.2.length ∧ q ≤ kp + 1 ∧ Hid (fv = fineAt d p b b0 q) ∧ Below Wq.heap.size Wq wr) (fun _ x _ => d.2.length - (intOf x).toNat)
            case atStart => exact ⟨0, f00, rfl, rfl, Nat.zero_le _, Nat.zero_le _, hHz, Below.refl _ _⟩
            case round =>
              obtain ⟨q, fv, rfl, rfl, hq1, hq2, hfv, hbq⟩ := hrel
              obtain ⟨Wr, rfl⟩ : ∃ W, W = wr := ⟨wr, rfl⟩
              have n4 := heap_below m4 hbq
              have n10 := heap_below m10 hbq
              have v0 := cell2_0 n4
              have v1 := cell2_1 n4
              have hbw := hbk0.trans (hbq.mono hbk0.size)
              have fin : (decide ((q : Int) < d.2.length) = false ∨ decide ((q : Int) < d.2.length) = true ∧ decide ((q : Int) ≤ kp) = false) ∨ (q < d.2.length ∧ q ≤ kp) := by
                simp only [decide_eq_true_eq, decide_eq_false_iff_not]; omega
              rcases fin with h | ⟨h1, h2⟩
              · have hft : fv = true := by
                  rw [hfv.out]
                  refine hfin.out q ?_
                  rcases h with h | ⟨_, h⟩
                  · exact .inl (by simpa using h)
                  · exact .inr (by simpa using h)
                subst hft
                rcases h with h | ⟨h, h'⟩
                · have hn : ¬ q < d.2.length := by simpa using h
                  have hd : decide (q < d.2.length) = false := decide_eq_false hn
                  go_wp2
                  all_goals exact ⟨⟨k + 1, rfl, hkt, hbw⟩, by simp [intOf]; omega⟩
                · have hn : ¬ q ≤ kp := by simpa using h'
                  have hd : decide (q ≤ kp) = false := decide_eq_false hn
                  have hm : q < d.2.length := by simpa using h
                  have hd2 : decide (q < d.2.length) = true := decide_eq_true hm
                  go_wp2
                  all_goals exact ⟨⟨k + 1, rfl, hkt, hbw⟩, by simp [intOf]; omega⟩
              · have h1' : decide ((q : Int) < d.2.length) = true := by simp; omega
                have h2' : decide ((q : Int) ≤ kp) = true := by simp; omega
                have hbW := hbl.trans (hbw.mono hbl.size)
                obtain ⟨_, _, hde, _, hdc⟩ := id (d3.below hbW)
                cases hde
                obtain ⟨wa, rfl, w0⟩ := hdc.cell (wrVals_at d.2 q h1).1
                obtain ⟨wa', ewa, w1⟩ := hdc.cell (wrVals_at d.2 q h1).2
                cases ewa
                have w1' := cell_next w1
                have hgx := hg.2.2.2.2 _ (List.getElem_mem h1)
                have hsc := fineAt_succ d p b b0 q h1
                obtain ⟨x, hx⟩ : ∃ x, x = d.2[q] := ⟨_, rfl⟩
                rw [← hx] at w0 w1' hgx hsc
                obtain ⟨xa, y⟩ := x
                dsimp only at w0 w1' hgx
                obtain ⟨_, hx0, hx1⟩ := hgx
                unfold Disk11.size at hx1
                obtain ⟨an, rfl⟩ : ∃ an : Nat, xa = (an : Int) := ⟨xa.toNat, by omega⟩
                rw [← hfv.out] at hsc
                have al := Go.Joins.below_alloc1 Wr (.cells #[.int .i64 (an : Int), .string ⟨y.toArray⟩] 57)
                have kx := World.alloc_heap_new Wr (.cells #[.int .i64 (an : Int), .string ⟨y.toArray⟩] 57)
                have g0 := cell2_0 kx
                have g1 := cell2_1 kx
                have h10 := cell2_0 (heap_below n10 al)
                have cqq := cell_below al (cell_below hbq cq')
                have hbz := hbq.trans (al.mono hbq.size)
                obtain ⟨e0, he0⟩ : ∃ e0 : Nat, (an : Int) + (y.length : Int) = (e0 : Int) := ⟨an + y.length, by omega⟩
                have hwr : IntKind.i64.wrap ((an : Int) + (y.length : Int)) = (e0 : Int) := by rw [he0, IntKind.wrap_i64]; omega
                have hHsc := Lib.hid hsc
                have hHb := Lib.hid hbz
                clear hsc hdc hx w1 hbz
                have done : ∀ (g : Bool) (n : Nat), g = (fv || cov ((an : Int), y) p b) → ∃ (q' : Nat) (fv' : Bool), Value.bool g = .bool fv' ∧ Value.int .i64 ((q : Int) + 1) = .int .i64 q' ∧ q' ≤ d.2.length ∧ q' ≤ kp + 1 ∧ Hid (fv' = fineAt d p b b0 q') ∧ Below Wq.heap.size Wq ((Wr.alloc (.cells #[.int .i64 (an : Int), .string ⟨y.toArray⟩] 57)).drewN n) := fun g n hg' =>
                  ⟨q + 1, g, rfl, rfl, h1, by omega, Lib.hid (by rw [hHsc.out, hg']), below_drewN hHb.out n⟩
                have hDone := Lib.hid done
                clear done
                cases fv with
                | true =>
                  clear he0
                  go_wp2
                  go_quiet (fail)
                  go_wp2
                  exact ⟨hDone.out _ _ rfl, by simp [intOf]; omega⟩
                | false =>
                  by_cases ca1 : an ≤ p
                  · have ca1' : decide ((an : Int) ≤ (p : Int)) = true := by simp; omega
                    by_cases ca2 : p < e0
                    · have ca2' : decide ((p : Int) < (e0 : Int)) = true := by simp; omega
                      obtain ⟨tt, htt⟩ : ∃ tt : Nat, (p : Int) - (an : Int) = (tt : Int) := ⟨p - an, by omega⟩
                      have htw : IntKind.i64.wrap ((p : Int) - (an : Int)) = (tt : Int) := by rw [htt, IntKind.wrap_i64]; omega
                      have htl : tt < y.length := by omega
                      obtain ⟨yb, hyb⟩ : ∃ yb, y[tt]? = some yb := ⟨_, List.getElem?_eq_getElem htl⟩
                      have i3 := str_at y tt yb hyb
                      obtain ⟨gb, hgb⟩ : ∃ gb, ((yb.toNat : Int) == (b.toNat : Int)) = gb := ⟨_, rfl⟩
                      have hcv : gb = (false || cov ((an : Int), y) p b) := by
                        unfold cov
                        rw [← hgb, byte_eq, show ((p : Int) - (an : Int)).toNat = tt by omega]
                        dsimp only
                        rw [hyb, decide_eq_true (by omega), decide_eq_true (by omega)]
                        rfl
                      have hHcv := Lib.hid hcv
                      clear hcv hyb htt he0
                      go_wp2
                      go_quiet (fail)
                      go_wp2
                      exact ⟨hDone.out _ _ hHcv.out, by simp [intOf]; omega⟩
                    · have ca2' : decide ((p : Int) < (e0 : Int)) = false := by simp; omega
                      have hcv : false = (false || cov ((an : Int), y) p b) := by
                        unfold cov
                        dsimp only
                        rw [decide_eq_false (p := (p : Int) < (an : Int) + (y.length : Int)) (by omega)]; simp
                      have hHcv := Lib.hid hcv
                      clear hcv he0
                      go_wp2
                      go_quiet (fail)
                      go_wp2
                      exact ⟨hDone.out _ _ hHcv.out, by simp [intOf]; omega⟩
                  · have ca1' : decide ((an : Int) ≤ (p : Int)) = false := by simp; omega
                    have hcv : false = (false || cov ((an : Int), y) p b) := by
                      unfold cov
                      dsimp only
                      rw [decide_eq_false (p := (an : Int) ≤ (p : Int)) (by omega)]; rfl
                    have hHcv := Lib.hid hcv
                    clear hcv he0
                    go_wp2
                    go_quiet (fail)
                    go_wp2
                    exact ⟨hDone.out _ _ hHcv.out, by simp [intOf]; omega⟩
          · have hkt' : decide ((k : Int) < 64) = false := by simp; omega
            go_wp2
            exact ⟨⟨i + 1, rfl, hlt, hbl.trans (hbk.mono hbl.size)⟩, by simp [intOf]; omega⟩
      · obtain rfl : i = d.1.length := by omega
        have hlt' : decide ((d.1.length : Int) < d.1.length) = false := by simp
        have di := d3.below hbl
        have ti := t3.trans (hbl.mono t3.size)
        go_wp2_with fail
        refine (HY.out _ _ di).mono ?_
        rintro e w10 ⟨ab5, cb5, ac5, cc5, rfl, s5, b5⟩
        have k18 := World.alloc_heap_new w10 (.cells #[.slice ab5 d.1.length cb5, .slice ac5 0 cc5] 25)
        have a5 := Go.Joins.below_alloc1 w10 (.cells #[.slice ab5 d.1.length cb5, .slice ac5 0 cc5] 25)
        have q5 := b5.trans (a5.mono b5.size)
        have t5 := ti.trans (q5.mono ti.size)
        have s5' := s5.below a5
        clear e0 e1 f0 f1 j4 j10
        go_wp2_with fail
        refine (HC2.out _ _ s5').mono ?_
        rintro e w11 ⟨ab6, cb6, ac6, cc6, rfl, s6, b6⟩
        have a6 := Go.Joins.below_alloc1 w11 (.cells #[.slice ab6 d.1.length cb6, .slice ac6 0 cc6] 25)
        have q6 := b6.trans (a6.mono b6.size)
        have t6 := t5.trans (q6.mono t5.size)
        have k186 := heap_below k18 q6
        have z0 := cell2_0 k186
        have z1 := cell2_1 k186
        have s56 := s5'.below q6
        have s6' := s6.below a6
        go_wp2_with fail
        refine (HSD.out _ _ _ s56 s6').mono ?_
        rintro e w12 ⟨rfl, b12⟩
        go_wp2
        go_ret
        exact ⟨rfl, t6.trans (b12.mono t6.size)⟩
end Go.Proofs.Ytiemlaofhmncdaa
