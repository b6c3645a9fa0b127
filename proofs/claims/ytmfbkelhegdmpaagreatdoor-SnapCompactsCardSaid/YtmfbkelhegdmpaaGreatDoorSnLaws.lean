/- Texts of small laws, one behind the other. -/
import Derived.Test.YtmfbkelhegdmpaaGreatDoorSnapPl
import Derived.Test.YtmfbkelhegdmpaaGreatDoorSnapEnds
import Derived.Test.YtmfbkelhegdmpaaGreatDoorSnapP
import Derived.Test.YtmfbkelhegdmpaaGreatDoorDiskIJ
import Derived.Test.YtmfbkelhegdmpaaGreatDoorDiskMU
import Derived.Laws.StructEq
import Derived.Test.YtmfbkelhegdmpaaGreatDoorSnapO
/- Chapter 13, plain facts for the statements: what is recovered from a device that is synchronised; the chapter's example. -/
namespace Go.Proofs.YtmfbkelhegdmpaaGreatDoor
open Go.RowKit Disk11 Journal12 Sum2

theorem cut_blocks {d : Dev} {r : Reg} {p : Int} (h : (cutJ d r p).2 = 0) : (cutJ d r p).1.1 = d.1 := by
  unfold cutJ at h ⊢
  by_cases h1 : placedJ d r p ≠ 0
  · rw [if_pos h1] at h; exact absurd h h1
  · rw [if_neg h1] at h ⊢
    by_cases h2 : p = 64 * r.2
    · rw [if_pos h2]
    · rw [if_neg h2] at h ⊢
      unfold writeD at h ⊢
      split
      · rename_i h3; rw [if_pos h3] at h; exact absurd h h3
      · rename_i h3; rw [if_neg h3] at h
        split
        · rename_i h4; rw [if_pos h4] at h; cases h
        · rename_i h4; rw [if_neg h4] at h
          split
          · rename_i h5; rw [if_pos h5] at h; cases h
          · rfl
/-- What is recovered has the blocks of the device. -/
theorem rec_blocks {d c : Dev} {x : List UInt8} {l : List (List UInt8)} {lg : LogS} (h : recoverS d = (c, x, l, lg, 0)) : c.1 = d.1 := by
  unfold recoverS at h
  by_cases h1 : (chk d).1 ≠ 0
  · rw [if_pos h1] at h; exact absurd (congrArg (·.2.2.2.2) h) h1
  · rw [if_neg h1] at h
    by_cases h2 : d.1.length < 8
    · rw [if_pos h2] at h; exact absurd (congrArg (·.2.2.2.2) h) (by dsimp only; decide)
    · rw [if_neg h2] at h
      by_cases h3 : d.2 ≠ []
      · rw [if_pos h3] at h; exact absurd (congrArg (·.2.2.2.2) h) (by dsimp only; decide)
      · rw [if_neg h3] at h
        by_cases h4 : (bestS d).1 = 0
        · rw [if_pos h4] at h; exact absurd (congrArg (·.2.2.2.2) h) (by dsimp only; decide)
        · rw [if_neg h4] at h
          have hc : c = doneS d := (congrArg (·.1) h).symm
          have ho : openN d = 0 := by unfold openN; rw [if_neg h1, if_neg h2]
          have hlog := rec_log ho rfl rfl rfl rfl
          have he := hlog.2.2.2.2.1
          have hcu := hlog.2.2.2.2.2.1 (Decidable.not_not.1 h3)
          rw [← he] at hcu
          rw [hc]
          unfold doneS
          split
          · rfl
          · exact cut_blocks hcu
/-- A device that is laid gives its data and its records, once it is synchronised. -/
theorem gives_plain {b g : Nat} {d : Dev} {x : List UInt8} {l : List (List UInt8)} (h : LaidS b d g x l) :
    ∃ B : Dev, syncD d = (B, 0) ∧ B.2 = [] ∧ B.1.length = b ∧ recoverS B = (B, x, l, (g, (sizeJ (withS (putN g) l) : Int)), 0) := by
  obtain ⟨h1, h2⟩ := sync_laid h
  exact ⟨_, h1, rfl, h2.2.1, recover_laid h2 rfl⟩
theorem putN1 : putN 1 = [1] := putN_low 1 (by decide)
theorem putN2 : putN 2 = [2] := putN_low 2 (by decide)
/-- Records of one generation: how much room they take. -/
theorem size_with (h : List UInt8) : ∀ l : List (List UInt8), sizeJ (withS h l) = (l.map fun x => h.length + x.length + 10).sum
  | [] => rfl
  | x :: l => by
    have := size_with h l
    unfold withS sizeJ at *
    simp only [List.map_cons, List.sum_cons, List.length_append] at *
    omega
def D0E : Dev := (formatS 8 [97, 98]).1
def A1E : Dev := (appendS D0E (1, 0) [120]).1
def D1E : Dev := (syncD A1E).1
theorem ex0 : formatS 8 [97, 98] = (D0E, (1, 0), 0) ∧ D0E.2 = [] ∧ LaidS 8 D0E 1 [97, 98] [] := by
  obtain ⟨D, h1, h2, h3⟩ := format_laid 8 [97, 98] (by decide) (by decide) (by decide)
  have e : D0E = D := by unfold D0E; rw [show ((8 : Nat) : Int) = 8 from rfl] at h1; rw [h1]
  rw [e]
  exact ⟨h1, h2, h3⟩
set_option maxRecDepth 100000 in
theorem ex1 : appendS D0E (1, 0) [120] = (A1E, (1, 12), 0) ∧ A1E.2.length = 1 ∧ A1E.1.length = 8 ∧ LaidS 8 A1E 1 [97, 98] [[120]] := by
  obtain ⟨_, h2, h3⟩ := ex0
  obtain ⟨h4, h5⟩ := append_laid (r := [120]) h3 (by rw [h2]; decide) (by decide) (by decide)
  have hz : sizeJ (withS (putN 1) ([] : List (List UInt8))) = 0 := rfl
  have hz2 : sizeJ (withS (putN 1) ([] ++ [[120]] : List (List UInt8))) = 12 := by rw [size_with, putN1]; rfl
  rw [hz2, hz] at h4
  have e : A1E = (appendS D0E (1, 0) [120]).1 := rfl
  rw [show (((0 : Nat) : Int)) = 0 from rfl] at h4
  rw [h4] at e
  rw [hz] at h5
  dsimp only at e
  refine ⟨by rw [e]; exact h4, by rw [e]; dsimp only; rw [List.length_append, h2, List.length_singleton]; rfl, by rw [e]; exact h3.2.1, by rw [e]; exact h5⟩
set_option maxRecDepth 100000 in
theorem ex2 : syncD A1E = (D1E, 0) ∧ D1E.2 = [] ∧ D1E.1.length = 8 ∧ LaidS 8 D1E 1 [97, 98] [[120]] := by
  obtain ⟨_, _, _, h4⟩ := ex1
  obtain ⟨h5, h6⟩ := sync_laid h4
  have e : D1E = (syncD A1E).1 := rfl
  rw [h5] at e
  dsimp only at e
  exact ⟨by rw [e]; exact h5, by rw [e], by rw [e]; exact h6.2.1, by rw [e]; exact h6⟩
theorem ex_size : sizeJ (withS (putN 1) [[120]]) = 12 := by rw [size_with, putN1]; rfl
theorem cap8 : capS 8 = (111, 0) := by decide
end Go.Proofs.YtmfbkelhegdmpaaGreatDoor
/- The walk of gives, chapter 13 (snap). -/
namespace Go.Proofs.YtmfbkelhegdmpaaGreatDoor
open Go.RowKit Disk11 Journal12 Sum2

theorem eq_log (g1 g2 p1 p2 : Int) (W : World) : (binOp .eql 32 (.agg #[.int .u64 g1, .int .i64 p1]) (.agg #[.int .u64 g2, .int .i64 p2])).run Tryz.prog W = .ok (.bool ((g1 == g2) && (p1 == p2))) W := by
  have t1 : Tryz.prog.stoodInHeld 32 = false := by kernel_rfl
  have t2 : Tryz.prog.underlying 32 = some (.struct (Tryz.prog.fieldsOf 32)) := by kernel_rfl
  rw [run_eql_struct, run_equalIn_agg _ _ _ _ _ t2 t1]
  simp [go_sem]
  by_cases h1 : g1 = g2 <;> by_cases h2 : p1 = p2 <;> simp [h1, h2]
theorem neq_log (g1 g2 p1 p2 : Int) (W : World) : (binOp .neq 32 (.agg #[.int .u64 g1, .int .i64 p1]) (.agg #[.int .u64 g2, .int .i64 p2])).run Tryz.prog W = .ok (.bool (!((g1 == g2) && (p1 == p2)))) W := by
  have t1 : Tryz.prog.stoodInHeld 32 = false := by kernel_rfl
  have t2 : Tryz.prog.underlying 32 = some (.struct (Tryz.prog.fieldsOf 32)) := by kernel_rfl
  rw [run_neq_struct, run_equalIn_agg _ _ _ _ _ t2 t1]
  simp [go_sem]
  by_cases h1 : g1 = g2 <;> by_cases h2 : p1 = p2 <;> simp [h1, h2]
theorem eq_log_same (g p : Int) (W : World) : (binOp .eql 32 (.agg #[.int .u64 g, .int .i64 p]) (.agg #[.int .u64 g, .int .i64 p])).run Tryz.prog W = .ok (.bool true) W := by
  rw [eq_log]; simp
theorem neq_log_same (g p : Int) (W : World) : (binOp .neq 32 (.agg #[.int .u64 g, .int .i64 p]) (.agg #[.int .u64 g, .int .i64 p])).run Tryz.prog W = .ok (.bool false) W := by
  rw [neq_log]; simp
/-- A device result, opened. -/
theorem rec_open {w : World} {r : Dev × List UInt8 × List (List UInt8) × LogS × Nat} {C : Dev} {x : List UInt8} {L : List (List UInt8)} {g : Nat} {p : Int} {k : Nat} (hr : r = (C, x, L, (g, p), k)) {e : Ending} {w' : World} (h : RecPost13 w r e w') :
    ∃ ab cb ac cc al cl, e = .returned (.tuple #[.agg #[.slice ab C.1.length cb, .slice ac C.2.length cc], .string ⟨x.toArray⟩, .slice al L.length cl, .agg #[.int .u64 (g : Int), .int .i64 p], .int .i64 (k : Int)]) ∧
      DiskIs w' C (.agg #[.slice ab C.1.length cb, .slice ac C.2.length cc]) ∧ Row w' 1 (.slice al L.length cl) L.length (strVals L) ∧ Below w.heap.size w w' := by
  subst hr
  obtain ⟨v', vl, rfl, h1, h2, h3⟩ := h
  obtain ⟨ab, cb, ac, cc, rfl, _⟩ := h1.form
  obtain ⟨al, cl, rfl⟩ := h2.slice
  exact ⟨ab, cb, ac, cc, al, cl, rfl, h1, Row.of_own h2, h3⟩
set_option maxHeartbeats 8000000 in
set_option maxRecDepth 100000 in
theorem gives_any (D B C : Dev) (v vl : Value) (x : List UInt8) (g : Nat) (p : Int) (L : List (List UInt8)) (w : World) (h : DiskIs w D v) (hl : Row w 1 vl L.length (strVals L)) (ht : Tab w)
    (hs : syncD D = (B, 0)) (hr : recoverS B = (C, x, L, (g, p), 0)) (hB : B.1.length ≤ 4096) (hL : L.length ≤ 4096) :
    Calls Tryz.prog 29 #[v, .string ⟨x.toArray⟩, .agg #[.int .u64 (g : Int), .int .i64 p], vl] w fun e w' => e = .returned (.bool true) ∧ Below w.heap.size w w' := by
  have hCB : C.1 = B.1 := rec_blocks hr
  have HY := Lib.hid (fun v W h => Sync_any D v W h)
  rw [hs] at HY
  dsimp only at HY
  rw [show ((0 : Nat) : Int) = 0 from rfl] at HY
  have HR := Lib.hid (fun v W h t => (Recover_any13 B v W h t).mono (fun _ _ => rec_open hr))
  have HT := Lib.hid (fun va vb W ha hb => SameTexts_any L L va vb W ha hb (by omega))
  have HT2 := Lib.hid (fun va vb W (ha : Row W 1 va C.1.length (strVals C.1)) (hb : Row W 1 vb B.1.length (strVals B.1)) => SameTexts_any C.1 B.1 va vb W ha hb (by rw [hCB]; omega))
  rw [decide_eq_true rfl] at HT
  rw [decide_eq_true hCB] at HT2
  rw [show ((0 : Nat) : Int) = 0 from rfl] at HR
  have he := eq_log_same (g : Int) p
  have hxl : (x == x) = true := beq_self_eq_true _
  obtain ⟨ab, cb, ac, cc, rfl, _, _, _, _⟩ := h.form
  obtain ⟨la, lc, rfl, _⟩ := hl.slice
  obtain ⟨k0, k1, hsz, hbl⟩ := alloc2 w (.cells #[.slice ab D.1.length cb, .slice ac D.2.length cc] 29) (.cells #[.int .u64 (g : Int), .int .i64 p] 32)
  have hB1 := Lib.hid hbl
  have h0 := Lib.hid h
  have hL0 := Lib.hid hl
  have hT := Lib.hid ht
  clear h hl ht hbl hs hr hCB hsz
  go_enter Tryz.func29, Tryz.ntmps29
  go_upto_region 1 with (fail)
  generalize hW1 : ((w.alloc (.cells #[.slice ab D.1.length cb, .slice ac D.2.length cc] 29)).alloc (.cells #[.int .u64 (g : Int), .int .i64 p] 32)) = W1 at *
  clear hW1
  have c0 := cell2_0 k0
  have c1 := cell2_1 k0
  go_wp2_with fail
  refine (HY.out _ _ (h0.out.below hB1.out)).mono ?_
  rintro e w2 ⟨v', rfl, D2, b2⟩
  obtain ⟨a2, n2, e2, m2, rfl, _⟩ := D2.form
  have a3 := Go.Joins.below_alloc1 w2 (.cells #[.slice a2 B.1.length n2, .slice e2 B.2.length m2] 29)
  have K9 := World.alloc_heap_new w2 (.cells #[.slice a2 B.1.length n2, .slice e2 B.2.length m2] 29)
  have b23 := b2.trans (a3.mono b2.size)
  have K1 := heap_below k1 b23
  have D3 := D2.below a3
  have B3 := Lib.hid (hB1.out.trans (b23.mono hB1.out.size))
  clear c0 c1 k0 k1 a3 b2 b23 D2 hB1
  go_upto_region 2 with (fail)
  generalize w2.alloc (.cells #[.slice a2 B.1.length n2, .slice e2 B.2.length m2] 29) = W3 at *
  have c0 := cell2_0 K9
  have c1 := cell2_1 K9
  go_wp2_with fail
  refine (HR.out _ _ D3 (hT.out.below B3.out)).mono ?_
  rintro e w4 ⟨a4, n4, e4, m4, al, cl, rfl, D4, R4, b4⟩
  obtain ⟨J0, J1, hsz4, b5⟩ := alloc2 w4 (.cells #[.slice a4 C.1.length n4, .slice e4 C.2.length m4] 29) (.cells #[.int .u64 (g : Int), .int .i64 p] 32)
  have b45 := b4.trans (b5.mono b4.size)
  have K9 := heap_below K9 b45
  have K1 := heap_below K1 b45
  have D5 := D4.below b5
  have D6 := D3.below b45
  have R5 := R4.below b5
  have B5 := B3.out.trans (b45.mono B3.out.size)
  have RL := hL0.out.below B5
  clear c0 c1 b45 b4 b5 D3 D4 R4 hsz4 B3
  go_upto_region 3 with (fail)
  generalize (w4.alloc (.cells #[.slice a4 C.1.length n4, .slice e4 C.2.length m4] 29)).alloc (.cells #[.int .u64 (g : Int), .int .i64 p] 32) = W5 at *
  have c0 := cell2_0 K9
  have c1 := cell2_1 K9
  have c2 := cell2_0 K1
  have c3 := cell2_1 K1
  have c4 := cell2_0 J0
  have c5 := cell2_1 J0
  have c6 := cell2_0 J1
  have c7 := cell2_1 J1
  go_wp2_with fail
  refine (HT.out _ _ _ R5 RL).mono ?_
  rintro e w6 ⟨rfl, b6⟩
  have c0 := cell_below b6 c0
  have c4 := cell_below b6 c4
  have D7 := D5.below b6
  have D8 := D6.below b6
  have B6 := Lib.hid (B5.trans (b6.mono B5.size))
  obtain ⟨_, _, e7, r7, _⟩ := D7
  cases e7
  obtain ⟨_, _, e8, r8, _⟩ := D8
  cases e8
  go_wp2_with fail
  refine (HT2.out _ _ _ r7 r8).mono ?_
  rintro e w7 ⟨rfl, b7⟩
  go_wp2
  go_ret
  exact ⟨rfl, B6.out.trans (b7.mono B6.out.size)⟩
end Go.Proofs.YtmfbkelhegdmpaaGreatDoor
/- The walks of shown and awake, chapter 13 (snap). -/
namespace Go.Proofs.YtmfbkelhegdmpaaGreatDoor
open Go.RowKit Disk11 Journal12 Sum2

theorem I64_lit13 {x : Int} (h : (Lit.int .i64 x).wf = true) : I64 x := by
  simp [Lit.wf, IntKind.min, IntKind.max, IntKind.bits, IntKind.signed] at h
  unfold I64; omega
theorem u64_lit13 {x : Int} (h : (Lit.int .u64 x).wf = true) : ∃ g : Nat, x = (g : Int) ∧ g < 18446744073709551616 := by
  simp [Lit.wf, IntKind.min, IntKind.max, IntKind.bits, IntKind.signed] at h
  exact ⟨x.toNat, by omega, by omega⟩
/-- A device and a log that are answered, opened. -/
theorem snap_open {w : World} {r : Dev × LogS × Nat} {C : Dev} {g : Nat} {p : Int} {k : Nat} (hr : r = (C, (g, p), k)) {e : Ending} {w' : World} (h : SnapPost w r e w') :
    ∃ ab cb ac cc, e = .returned (.tuple #[.agg #[.slice ab C.1.length cb, .slice ac C.2.length cc], .agg #[.int .u64 (g : Int), .int .i64 p], .int .i64 (k : Int)]) ∧
      DiskIs w' C (.agg #[.slice ab C.1.length cb, .slice ac C.2.length cc]) ∧ Below w.heap.size w w' := by
  subst hr
  obtain ⟨v', rfl, h1, h3⟩ := h
  obtain ⟨ab, cb, ac, cc, rfl, _⟩ := h1.form
  exact ⟨ab, cb, ac, cc, rfl, h1, h3⟩
/-- What Sync answers, opened. -/
theorem sync_open {w : World} {D C : Dev} {v : Value} (hs : syncD D = (C, 0)) (h : DiskIs w D v) :
    Calls Tryz.prog 31 #[v] w fun e w' => ∃ ab cb ac cc, e = .returned (.tuple #[.agg #[.slice ab C.1.length cb, .slice ac C.2.length cc], .int .i64 0]) ∧ DiskIs w' C (.agg #[.slice ab C.1.length cb, .slice ac C.2.length cc]) ∧ Below w.heap.size w w' := by
  refine (Sync_any D v w h).mono ?_
  rw [hs]
  rintro e w' ⟨v', rfl, h1, h2⟩
  obtain ⟨ab, cb, ac, cc, rfl, _⟩ := h1.form
  exact ⟨ab, cb, ac, cc, rfl, h1, h2⟩
theorem laid_gives {b g : Nat} {d : Dev} {x : List UInt8} {l : List (List UInt8)} (h : LaidS b d g x l) (hb : b ≤ 4096) (hl : l.length ≤ 4096) (v vl : Value) (w : World) (hd : DiskIs w d v) (hr : Row w 1 vl l.length (strVals l)) (ht : Tab w) :
    Calls Tryz.prog 29 #[v, .string ⟨x.toArray⟩, .agg #[.int .u64 (g : Int), .int .i64 (sizeJ (withS (putN g) l) : Nat)], vl] w fun e w' => e = .returned (.bool true) ∧ Below w.heap.size w w' := by
  obtain ⟨B, h1, _, h3, h4⟩ := gives_plain h
  exact gives_any d B B v vl x g _ l w hd hr ht h1 h4 (by omega) hl
theorem row_lit13 (W : World) (x : List UInt8) : Row (W.alloc (.cells #[.string ⟨x.toArray⟩] 9)) 1 (.slice (some ⟨W.heap.size, 0, none⟩) 1 1) 1 (strVals [x]) := by
  have k := World.alloc_heap_new W (.cells #[.string ⟨x.toArray⟩] 9)
  refine ⟨rfl, _, _, rfl, Nat.le_refl _, fun j v hj => ⟨_, rfl, ?_⟩⟩
  rw [addr_add]
  match j, hj with
  | 0, hj => simp [strVals] at hj; subst hj; exact cell1 k
  | j + 1, hj => simp [strVals] at hj
set_option maxHeartbeats 8000000 in
set_option maxRecDepth 100000 in
theorem shown_any13 (w : World) (ht : Tab w) :
    Calls Tryz.prog 27 #[] w fun e w' => ∃ ab cb ac cc, e = .returned (.tuple #[.agg #[.slice ab 8 cb, .slice ac 0 cc], .agg #[.int .u64 1, .int .i64 12], .bool true]) ∧ DiskIs w' D1E (.agg #[.slice ab 8 cb, .slice ac 0 cc]) ∧ Below w.heap.size w w' := by
  obtain ⟨e1, e2, e3⟩ := ex0
  obtain ⟨e4, e5, e5b, e6⟩ := ex1
  obtain ⟨e7, e8, e9, _⟩ := ex2
  have hl0 : D0E.1.length = 8 := e3.2.1
  have hl1 : D0E.2.length = 0 := by rw [e2]; rfl
  have HF := Lib.hid (fun W t => (Format_any13 8 (by unfold I64; omega) [97, 98] W (by decide) t).mono (fun _ _ => snap_open e1))
  have HA := Lib.hid (fun v W h t => (Append_any13 D0E v 1 0 [120] W (by decide) (by decide) h t).mono (fun _ _ => snap_open e4))
  have HY := Lib.hid (fun v W h => sync_open (w := W) (v := v) e7 h)
  have HG := Lib.hid (fun v W h t => laid_gives e3 (by decide) (by decide) v (.slice none 0 0) W h (Row.nil _ _) t)
  have hz : sizeJ (withS (putN 1) ([] : List (List UInt8))) = 0 := rfl
  rw [hz] at HG
  rw [hl0, hl1] at HF
  have hl2 : D1E.2.length = 0 := by rw [e8]; rfl
  rw [e9, hl2] at HY
  rw [e5b, e5] at HA
  rw [show ((0 : Nat) : Int) = 0 from rfl] at HF HA HG
  rw [show ((1 : Nat) : Int) = 1 from rfl] at HF HA HG
  have hn := neq_log_same 1 0
  have hT := Lib.hid ht
  clear e1 e2 e3 e4 e5 e5b e6 e7 e8 e9 hl0 hl1 hl2 hz ht
  obtain ⟨k0, k1, hsz, hbl⟩ := alloc2 w (.cells #[.slice none 0 0, .slice none 0 0] 29) (.cells #[.int .u64 0, .int .i64 0] 32)
  have B1 := Lib.hid hbl
  have lw1 : w.heap.size + 2 = ((w.alloc (.cells #[.slice none 0 0, .slice none 0 0] 29)).alloc (.cells #[.int .u64 0, .int .i64 0] 32)).heap.size := hsz.symm
  clear hbl hsz
  go_enter Tryz.func27, Tryz.ntmps27
  go_upto_region 1 with (fail)
  generalize hW1 : ((w.alloc (.cells #[.slice none 0 0, .slice none 0 0] 29)).alloc (.cells #[.int .u64 0, .int .i64 0] 32)) = W1 at *
  clear hW1
  go_wp2_with fail
  refine (HF.out _ (hT.out.below B1.out)).mono ?_
  rintro e w2 ⟨a2, n2, c2, m2, rfl, D2, b2⟩
  obtain ⟨J0, J1, hs2, b3⟩ := alloc2 w2 (.cells #[.slice a2 8 n2, .slice c2 0 m2] 29) (.cells #[.int .u64 1, .int .i64 0] 32)
  have b23 := b2.trans (b3.mono b2.size)
  have K0 := heap_below k0 b23
  have K1 := heap_below k1 b23
  have D3 := D2.below b3
  have B3 := Lib.hid (B1.out.trans (b23.mono B1.out.size))
  have lw2 : w.heap.size + 2 ≤ w2.heap.size := by have := b2.size; omega
  clear b2 b3 b23 k0 k1 D2 B1 HF hs2
  go_upto_region 2 with (fail)
  generalize (w2.alloc (.cells #[.slice a2 8 n2, .slice c2 0 m2] 29)).alloc (.cells #[.int .u64 1, .int .i64 0] 32) = W3 at *
  have c0 := cell2_0 J0
  have c1 := cell2_1 J0
  have c2 := cell2_0 J1
  have c3 := cell2_1 J1
  go_wp2_with fail
  refine (HG.out _ _ D3 (hT.out.below B3.out)).mono ?_
  rintro e w4 ⟨rfl, b4⟩
  have K0 := heap_below K0 b4
  have K1 := heap_below K1 b4
  have J0 := heap_below J0 b4
  have J1 := heap_below J1 b4
  have D4 := D3.below b4
  have B4 := Lib.hid (B3.out.trans (b4.mono B3.out.size))
  have lw4 : w.heap.size + 1 < w4.heap.size := (Array.getElem?_eq_some_iff.1 K1).1
  clear c0 c1 c2 c3 b4 D3 B3 HG
  have c0 := cell2_0 J0
  have c1 := cell2_1 J0
  have c2 := cell2_0 J1
  have c3 := cell2_1 J1
  go_wp2_with fail
  refine (HA.out _ _ D4 (hT.out.below B4.out)).mono ?_
  rintro e w5 ⟨a5, n5, c5, m5, rfl, D5, b5⟩
  obtain ⟨I0, I1, hs5, b6⟩ := alloc2 w5 (.cells #[.slice a5 8 n5, .slice c5 1 m5] 29) (.cells #[.int .u64 1, .int .i64 12] 32)
  have b56 := b5.trans (b6.mono b5.size)
  have K0 := heap_below K0 b56
  have K1 := heap_below K1 b56
  have D6 := D5.below b6
  have B6 := Lib.hid (B4.out.trans (b56.mono B4.out.size))
  have lw5 := b5.size
  clear b5 b6 b56 D5 B4 HA c0 c1 c2 c3 J0 J1 D4
  go_upto_region 5 with (fail)
  have lw6 : w5.heap.size + 1 < ((w5.alloc (.cells #[.slice a5 8 n5, .slice c5 1 m5] 29)).alloc (.cells #[.int .u64 1, .int .i64 12] 32)).heap.size := by rw [hs5]; omega
  generalize (w5.alloc (.cells #[.slice a5 8 n5, .slice c5 1 m5] 29)).alloc (.cells #[.int .u64 1, .int .i64 12] 32) = W6 at *
  have c0 := cell2_0 I0
  have c1 := cell2_1 I0
  go_wp2_with fail
  refine (HY.out _ _ D6).mono ?_
  rintro e w7 ⟨a7, n7, c7, m7, rfl, D7, b7⟩
  have a8 := Go.Joins.below_alloc1 w7 (.cells #[.slice a7 8 n7, .slice c7 0 m7] 29)
  have H9 := World.alloc_heap_new w7 (.cells #[.slice a7 8 n7, .slice c7 0 m7] 29)
  have b78 := b7.trans (a8.mono b7.size)
  have K0 := heap_below K0 b78
  have K1 := heap_below K1 b78
  have I1 := heap_below I1 b78
  have D8 := D7.below a8
  have B8 := B6.out.trans (b78.mono B6.out.size)
  have lw7 := b7.size
  clear c0 c1 I0 b7 a8 b78 D7 D6 B6 HY hs5
  go_upto_region 6 with (fail)
  generalize w7.alloc (.cells #[.slice a7 8 n7, .slice c7 0 m7] 29) = W8 at *
  have d0 := cell2_0 H9
  have d1 := cell2_1 H9
  have d2 := cell2_0 I1
  have d3 := cell2_1 I1
  have z0 := cell2_0 K0
  have z1 := cell2_1 K0
  have z2 := cell2_0 K1
  have z3 := cell2_1 K1
  have f0 := frozen2 K0 0
  have f1 := frozen2 K0 1
  have f2 := frozen2 K1 0
  have f3 := frozen2 K1 1
  have N0 := no_str K0 (by simp)
  have N1 := no_str K1 (by simp)
  have h1 : ¬ (w.heap.size = w7.heap.size) := by omega
  have h2 : ¬ (w.heap.size + 1 = w7.heap.size) := by omega
  have h3 : ¬ (w.heap.size = w5.heap.size + 1) := by omega
  have h4 : ¬ (w.heap.size = w5.heap.size) := by omega
  have HK := Lib.hid (And.intro K0 (And.intro K1 (And.intro N0 (And.intro N1 (And.intro D8 B8)))))
  clear K0 K1 N0 N1 D8 B8 H9 I1 hn hT
  go_region_held3 (fun W => W.cell? { block := w7.heap.size, off := 0, spot := none } = some (.slice a7 8 n7) ∧ W.cell? { block := w7.heap.size, off := 1, spot := none } = some (.slice c7 0 m7) ∧ W.cell? { block := w5.heap.size + 1, off := 0, spot := none } = some (.int .u64 1) ∧ W.cell? { block := w5.heap.size + 1, off := 1, spot := none } = some (.int .i64 12)) ((first | (simp only [World.cell?_setCell_far, ne_eq, h1, h2, h3, h4, not_false_eq_true, d0, d1, d2, d3, and_self]; done) | go_keep)) (fail)
  all_goals
    go_wp2
    obtain ⟨K0, K1, N0, N1, D8, B8⟩ := HK.out
    have hne : w.heap.size ≠ w.heap.size + 1 := by omega
    have F0 := other_set (j := 1) (other_set (j := 0) (set_two (x' := .slice a7 8 n7) (y' := .slice c7 0 m7) K0) hne (.int .u64 1)) hne (.int .i64 12)
    have F1 := set_two (x' := .int .u64 1) (y' := .int .i64 12) (other_set (j := 1) (other_set (j := 0) K1 hne.symm (.slice a7 8 n7)) hne.symm (.slice c7 0 m7))
    have DD := disk_aside (j := 1) (u := .int .i64 12) (disk_aside (j := 0) (u := .int .u64 1) (disk_aside (j := 1) (u := .slice c7 0 m7) (disk_aside (j := 0) (u := .slice a7 8 n7) D8 N0) (nostr_set N0 (by simp))) (nostr_set (nostr_set N1 (by simp)) (by simp))) (nostr_set (nostr_set (nostr_set N1 (by simp)) (by simp)) (by simp))
    exact bodyPost_ret (results_cct rfl _ _ _ _ _ _ _ rfl rfl rfl (load_disk F0) (load_log F1)) rfl ⟨_, _, _, _, rfl, DD.drew, (below_set (below_set (below_set (below_set B8 (Nat.le_refl _)) (Nat.le_refl _)) (by omega)) (by omega)).drew⟩
set_option maxHeartbeats 8000000 in
set_option maxRecDepth 100000 in
theorem awake_any13 (w : World) (ht : Tab w) :
    Calls Tryz.prog 10 #[] w fun e w' => e = .returned (.bool true) ∧ Below w.heap.size w w' := by
  have HS := Lib.hid (fun W t => shown_any13 W t)
  have HC := Lib.hid (fun W => Capacity_any 8 (by unfold I64; omega) W)
  rw [cap8] at HC
  have HG := Lib.hid (fun v vl W h hr t => laid_gives ex2.2.2.2 (by decide) (by decide) v vl W h hr t)
  rw [ex_size] at HG
  have hn := eq_log_same 1 12
  have hT := Lib.hid ht
  clear ht
  go_enter Tryz.func10, Tryz.ntmps10
  go_wp2_with fail
  refine (HS.out _ hT.out).mono ?_
  rintro e w2 ⟨a2, n2, c2, m2, rfl, D2, b2⟩
  obtain ⟨J0, J1, hs2, b3⟩ := alloc2 w2 (.cells #[.slice a2 8 n2, .slice c2 0 m2] 29) (.cells #[.int .u64 1, .int .i64 12] 32)
  have B3 := b2.trans (b3.mono b2.size)
  have D3 := D2.below b3
  clear b2 b3 D2 hs2 HS
  go_upto_region 2 with (fail)
  generalize (w2.alloc (.cells #[.slice a2 8 n2, .slice c2 0 m2] 29)).alloc (.cells #[.int .u64 1, .int .i64 12] 32) = W3 at *
  go_wp2_with fail
  refine (HC.out _).mono ?_
  rintro e w4 ⟨rfl, b4⟩
  have J0 := heap_below J0 b4
  have J1 := heap_below J1 b4
  have D4 := D3.below b4
  have B4 := B3.trans (b4.mono B3.size)
  have a5 := Go.Joins.below_alloc1 w4 (.cells #[.string ⟨[120].toArray⟩] 9)
  have R5 := Lib.hid (row_lit13 w4 [120])
  have D5 := Lib.hid (D4.below a5)
  have B5 := Lib.hid (B4.trans (a5.mono B4.size))
  have c0 := cell2_0 J0
  have c1 := cell2_1 J0
  have c2 := cell2_0 J1
  have c3 := cell2_1 J1
  clear J0 J1 D3 D4 B3 B4 b4 a5
  go_wp2_with fail
  refine (HG.out _ _ _ D5.out R5.out (hT.out.below B5.out)).mono ?_
  rintro e w6 ⟨rfl, b6⟩
  go_wp2
  go_ret
  exact ⟨rfl, B5.out.trans (b6.mono B5.out.size)⟩
end Go.Proofs.YtmfbkelhegdmpaaGreatDoor
