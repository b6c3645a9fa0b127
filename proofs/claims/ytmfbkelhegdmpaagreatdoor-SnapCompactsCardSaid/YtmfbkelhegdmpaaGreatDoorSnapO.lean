/- The walk of the program's Format, chapter 13 (snap). -/
import Derived.Test.YtmfbkelhegdmpaaGreatDoorSnapEnds
import Derived.Test.YtmfbkelhegdmpaaGreatDoorSnapCG
import Derived.Test.YtmfbkelhegdmpaaGreatDoorDiskMU
import Derived.Test.YtmfbkelhegdmpaaGreatDoorDiskPQ
namespace Go.Proofs.YtmfbkelhegdmpaaGreatDoor
open Go.RowKit Disk11 Journal12 Sum2

theorem format_f1 {b : Int} {x : List UInt8} {C : Int × Nat} (hC : C = capS b) (h : C.2 ≠ 0) : formatS b x = (none0, (0, 0), C.2) := by
  unfold formatS; rw [← hC, if_pos h]
theorem format_f2 {b : Int} {x : List UInt8} {C : Int × Nat} (hC : C = capS b) (h : C.2 = 0) (h2 : C.1 < (x.length : Int)) : formatS b x = (none0, (0, 0), 4) := by
  unfold formatS; rw [← hC, if_neg (by simp [h]), if_pos h2]
theorem format_done {b : Int} {x : List UInt8} {C : Int × Nat} (hC : C = capS b) (h : C.2 = 0) (h2 : ¬ C.1 < (x.length : Int)) {r1 r2 r3 : Dev × Nat} (e1 : r1 = newD b) (e2 : r2 = writeD r1.1 (64 * (b / 4)) (183 :: formS 1 x)) (e3 : r3 = syncD r2.1) :
    formatS b x = (r3.1, (1, 0), 0) := by
  unfold formatS; rw [← hC, if_neg (by simp [h]), if_neg h2, e3, e2, e1]
theorem cap_range {b : Int} (h : (capS b).2 = 0) : 8 ≤ b ∧ b ≤ 4096 ∧ (capS b).1 = 64 * (b / 4) - 17 := by
  unfold capS at h ⊢
  by_cases hb : b < 8 ∨ 4096 < b
  · rw [if_pos hb] at h; cases h
  · rw [if_neg hb]; exact ⟨by omega, by omega, rfl⟩
set_option maxHeartbeats 8000000 in
set_option maxRecDepth 100000 in
theorem Format_any13 (b : Int) (hb : I64 b) (x : List UInt8) (w : World) (hx : x.length ≤ 1000000) (ht : Tab w) :
    Calls Tryz.prog 13 #[.int .i64 b, .string ⟨x.toArray⟩] w (SnapPost w (formatS b x)) := by
  have HC := Lib.hid (fun W => Capacity_any b hb W)
  obtain ⟨C, hC⟩ : ∃ C, C = capS b := ⟨_, rfl⟩
  rw [← hC] at HC
  have hC' := Lib.hid hC
  obtain ⟨R, hR⟩ : ∃ R, R = formatS b x := ⟨_, rfl⟩
  rw [← hR]
  have hR' := Lib.hid hR
  obtain ⟨k2, k3, hsz, hbl⟩ := alloc2 w (.cells #[.slice none 0 0, .slice none 0 0] 29) (.cells #[.int .u64 0, .int .i64 0] 32)
  have hB := Lib.hid hbl
  have hT := Lib.hid ht
  have z2 : (⟨x.toArray⟩ : ByteArray).size = x.length := rfl
  clear hbl ht hC hR hsz
  go_enter Tryz.func13, Tryz.ntmps13
  go_upto_region 1 with (fail)
  generalize hW1 : ((w.alloc (.cells #[.slice none 0 0, .slice none 0 0] 29)).alloc (.cells #[.int .u64 0, .int .i64 0] 32)) = W1 at *
  clear hW1
  go_wp2_with fail
  refine (HC.out _).mono ?_
  rintro e w2 ⟨rfl, b2⟩
  have K2 := heap_below k2 b2
  have K3 := heap_below k3 b2
  have B2 := Lib.hid (hB.out.trans (b2.mono hB.out.size))
  clear b2 k2 k3
  by_cases hc : C.2 = 0
  · have hc' := Lib.hid hc
    obtain ⟨h8, h4, hcap⟩ := cap_range (hC'.out ▸ hc)
    rw [← hC'.out] at hcap
    obtain ⟨n, rfl⟩ : ∃ n : Nat, b = (n : Int) := ⟨b.toNat, by omega⟩
    obtain ⟨cp, hcp⟩ : ∃ cp, cp = C.1 := ⟨_, rfl⟩
    rw [hc, ← hcp]
    rw [← hcp] at hcap
    have hcp' := Lib.hid hcp
    have hx6 : cp ≤ 65536 := by omega
    have hcap' := Lib.hid hcap
    clear hc hcp hcap
    by_cases hl : cp < (x.length : Int)
    · have hl' : decide (cp < (x.length : Int)) = true := decide_eq_true hl
      have hr2 := Lib.hid (hR'.out.trans (format_f2 hC'.out hc'.out (by rw [← hcp'.out]; exact hl)))
      have z0 := cell2_0 K2
      have z1 := cell2_1 K2
      have z3 := cell2_0 K3
      have z4 := cell2_1 K3
      have f0 := frozen2 K2 0
      have f1 := frozen2 K2 1
      have f2 := frozen2 K3 0
      have f3 := frozen2 K3 1
      go_wp2
      exact ret4_none rfl rfl rfl rfl rfl K2 K3 (by omega) (by simp) (by simp) B2.out (Nat.le_refl _) (by omega) hr2.out
    · have hl' : decide (cp < (x.length : Int)) = false := decide_eq_false hl
      have HN := Lib.hid (fun W => New_any (n : Int) W)
      obtain ⟨r1, hr1⟩ : ∃ r, r = newD (n : Int) := ⟨_, rfl⟩
      rw [← hr1] at HN
      have hr1' := Lib.hid hr1
      clear hr1 HC
      go_wp2_with fail
      refine (HN.out _).mono ?_
      rintro e w3 ⟨v', rfl, D3, b3⟩
      obtain ⟨a3, m3, c3, n3, rfl, _⟩ := D3.form
      have S3 := heap_below K2 b3
      have L3 := heap_below K3 b3
      have B3 := Lib.hid (B2.out.trans (b3.mono B2.out.size))
      have f0 := frozen2 S3 0
      have f1 := frozen2 S3 1
      have d0 := cell2_0 S3
      have d1 := cell2_1 S3
      clear K2 K3 b3
      go_upto_region 7 with (fail)
      have S4 := set_two (x' := (.slice a3 r1.1.1.length m3)) (y' := (.slice c3 r1.1.2.length n3)) S3
      have DD := Lib.hid (disk_apart (j := 1) (u := (.slice c3 r1.1.2.length n3)) (disk_apart (j := 0) (u := (.slice a3 r1.1.1.length m3)) D3 S3) (Lib.heap_setCell_same (i := 0) S3 _)).drew
      have L4 := two_other (j := 0) (j' := 1) (u := (.slice a3 r1.1.1.length m3)) (u' := (.slice c3 r1.1.2.length n3)) (b := w.heap.size) (by omega) L3
      have U := Lib.hid (below_set (j := 1) (u := (.slice c3 r1.1.2.length n3)) (below_set (j := 0) (u := (.slice a3 r1.1.1.length m3)) B3.out (Nat.le_refl _)) (Nat.le_refl _)).drew
      generalize (w3.setCell ⟨w.heap.size, 0, none⟩ (.slice a3 r1.1.1.length m3)).setCell ⟨w.heap.size, 1, none⟩ (.slice c3 r1.1.2.length n3) = W4 at *
      clear d0 d1 f0 f1 S3 L3 D3
      have S0 := Lib.hid (show W4.drew.heap[w.heap.size]? = _ from S4)
      have L0 := Lib.hid (show W4.drew.heap[w.heap.size + 1]? = _ from L4)
      have d0 := cell2_0 S0.out
      have d1 := cell2_1 S0.out
      have HL := Lib.hid (fun W => layoutOf_any n (by omega) W)
      have HS := Lib.hid (fun W => start_any n 1 (by omega) (by omega) W)
      have he : layV n = .agg #[.int .i64 ((n / 4 : Nat) : Int), .int .i64 ((2 * (n / 4) : Nat) : Int), .int .i64 ((n - 2 * (n / 4) : Nat) : Int)] := rfl
      obtain ⟨x1, hx1⟩ : ∃ x, x = ((n / 4 : Nat) : Int) := ⟨_, rfl⟩
      obtain ⟨x2, hx2⟩ : ∃ x, x = ((2 * (n / 4) : Nat) : Int) := ⟨_, rfl⟩
      obtain ⟨x3, hx3⟩ : ∃ x, x = ((n - 2 * (n / 4) : Nat) : Int) := ⟨_, rfl⟩
      rw [← hx1, ← hx2, ← hx3] at he
      rw [he] at HL HS
      have hs : ((placeS n 1 : Nat) : Int) = 64 * ((n : Int) / 4) := by unfold placeS slotN; omega
      obtain ⟨s, hs1⟩ : ∃ s, s = placeS n 1 := ⟨_, rfl⟩
      rw [← hs1] at HS hs
      have HFo := Lib.hid (fun W t => sform_any 1 x (by omega) (by omega) W t)
      have hFl := formS_length 1 x
      obtain ⟨F, hF⟩ : ∃ F, F = formS 1 x := ⟨_, rfl⟩
      rw [← hF] at HFo hFl
      obtain ⟨M, hM⟩ : ∃ M, M = 183 :: F := ⟨_, rfl⟩
      have hMb : (⟨#[183]⟩ : ByteArray) ++ ⟨F.toArray⟩ = ⟨M.toArray⟩ := by rw [hM]; exact bytes_app [183] F
      have zF : (⟨F.toArray⟩ : ByteArray).size = F.length := rfl
      have z1 : (⟨#[183]⟩ : ByteArray).size = 1 := rfl
      have hF2 : F.length ≤ 1000016 := by omega
      have hadd : ¬ (9223372036854775807 < 1 + F.length) := by omega
      obtain ⟨r2, h2⟩ : ∃ r, r = writeD r1.1 (s : Int) M := ⟨_, rfl⟩
      have HW := Lib.hid (fun v W h => Write_any r1.1 v (s : Int) M W h)
      rw [← h2] at HW
      have e2 := Lib.hid (show r2 = writeD r1.1 (64 * ((n : Int) / 4)) (183 :: formS 1 x) by rw [h2, hM, hF, hs])
      clear h2 hM hF hFl hs hs1 hx1 hx2 hx3 he S4 L4 HN
      go_cut [42] from 32 to 42 (fun u W => ∃ (a8 : Option Addr) (m8 : Nat) (c8 : Option Addr) (n8 : Nat), W.heap[w.heap.size]? = some (.cells #[.slice a8 r2.1.1.length m8, .slice c8 r2.1.2.length n8] 29 (0, 0)) ∧ DiskIs W r2.1 (.agg #[.slice a8 r2.1.1.length m8, .slice c8 r2.1.2.length n8]) ∧ W.heap[w.heap.size + 1]? = some (.cells #[.int .u64 0, .int .i64 0] 32 (0, 0)) ∧ Below w.heap.size w W)
      case first =>
        refine wp_region_any (by kernel_rfl) ?_
        refine wpAny_take (i := 1) (v := ?_) rfl (by kernel_rfl) (by kernel_rfl) (by kernel_rfl) (fun _ _ _ h => h) (Or.inl ⟨by rfl, ?_⟩) ?_
        rotate_left
        · intro Wt; go_simp; with_reducible rfl
        refine wpAny_take (i := 4) (v := ?_) rfl (by kernel_rfl) (by kernel_rfl) (by kernel_rfl) (fun _ _ _ h => h) (Or.inl ⟨by rfl, ?_⟩) ?_
        rotate_left
        · intro Wt; go_simp; with_reducible rfl
        refine wpAny_ready (rs := [0, 2]) (by kernel_rfl) (by simp) ?_
        refine AllReady.cons rfl (fun K hK => ?_) (AllReady.cons rfl (fun K hK => ?_) AllReady.nil)
        · go_simp
          refine hK _ _ ?_
          clear hK K
          refine wpAny_ready (rs := [2]) (by kernel_rfl) (by simp) ?_
          refine AllReady.cons rfl (fun K hK => ?_) AllReady.nil
          go_simp
          refine (HL.out _).mono ?_
          rintro e u ⟨rfl, y⟩
          have S0 := Lib.hid (heap_below S0.out y)
          have L0 := Lib.hid (heap_below L0.out y)
          have DD := Lib.hid (DD.out.below y)
          have U := Lib.hid (U.out.trans (y.mono U.out.size))
          have d0 := cell2_0 S0.out
          have d1 := cell2_1 S0.out
          clear y
          refine hK _ _ ?_
          clear hK K
          refine wpAny_ready (rs := [3]) (by kernel_rfl) (by simp) ?_
          refine AllReady.cons rfl (fun K hK => ?_) AllReady.nil
          go_simp
          refine (HS.out _).mono ?_
          rintro e u ⟨rfl, y⟩
          have S0 := Lib.hid (heap_below S0.out y)
          have L0 := Lib.hid (heap_below L0.out y)
          have DD := Lib.hid (DD.out.below y)
          have U := Lib.hid (U.out.trans (y.mono U.out.size))
          have d0 := cell2_0 S0.out
          have d1 := cell2_1 S0.out
          clear y
          refine hK _ _ ?_
          clear hK K
          refine wpAny_ready (rs := [5]) (by kernel_rfl) (by simp) ?_
          refine AllReady.cons rfl (fun K hK => ?_) AllReady.nil
          go_simp
          refine (HFo.out _ (hT.out.below U.out)).mono ?_
          rintro e u ⟨rfl, y⟩
          have S0 := Lib.hid (heap_below S0.out y)
          have L0 := Lib.hid (heap_below L0.out y)
          have DD := Lib.hid (DD.out.below y)
          have U := Lib.hid (U.out.trans (y.mono U.out.size))
          have d0 := cell2_0 S0.out
          have d1 := cell2_1 S0.out
          clear y
          refine hK _ _ ?_
          clear hK K
          refine wpAny_take (i := 6) (v := ?_) rfl (by kernel_rfl) (by kernel_rfl) (by kernel_rfl) (fun _ _ _ h => h) (Or.inl ⟨by rfl, ?_⟩) ?_
          rotate_left
          · intro Wt; go_simp; with_reducible rfl
          refine wpAny_ready (rs := [7]) (by kernel_rfl) (by simp) ?_
          refine AllReady.cons rfl (fun K hK => ?_) AllReady.nil
          go_simp
          refine (HW.out _ _ DD.out).mono ?_
          rintro e u ⟨v', rfl, D8, y⟩
          have S0 := Lib.hid (heap_below S0.out y)
          have L0 := Lib.hid (heap_below L0.out y)
          have DD := Lib.hid (DD.out.below y)
          have U := Lib.hid (U.out.trans (y.mono U.out.size))
          have d0 := cell2_0 S0.out
          have d1 := cell2_1 S0.out
          clear y
          obtain ⟨a8, m8, c8, n8, rfl, _⟩ := D8.form
          have f0 := frozen2 S0.out 0
          have f1 := frozen2 S0.out 1
          refine hK _ _ ?_
          clear hK K
          refine wpAny_take (i := 8) (v := ?_) rfl (by kernel_rfl) (by kernel_rfl) (by kernel_rfl) (fun _ _ _ h => h) (Or.inl ⟨by rfl, ?_⟩) ?_
          rotate_left
          · intro Wt; go_simp; with_reducible rfl
          refine wpAny_take (i := 9) (v := ?_) rfl (by kernel_rfl) (by kernel_rfl) (by kernel_rfl) (fun _ _ _ h => h) (Or.inl ⟨by rfl, ?_⟩) ?_
          rotate_left
          · intro Wt; go_simp; with_reducible rfl
          refine wpAny_take (i := 10) (v := ?_) rfl (by kernel_rfl) (by kernel_rfl) (by kernel_rfl) (fun _ _ _ h => h) (Or.inl ⟨by rfl, ?_⟩) ?_
          rotate_left
          · intro Wt; go_simp; with_reducible rfl
          refine wpAny_ready (rs := [11]) (by kernel_rfl) (by simp) ?_
          refine AllReady.cons rfl (fun K hK => ?_) AllReady.nil
          go_simp
          refine hK _ _ ?_
          clear hK K
          refine wpAny_done (by kernel_rfl) ?_ _
          go_wp2_with fail
          go_meet
          exact ⟨a8, m8, c8, n8, set_two S0.out, disk_apart (j := 1) (disk_apart (j := 0) D8 S0.out) (Lib.heap_setCell_same (i := 0) S0.out _), two_other (by omega) L0.out, below_set (below_set U.out (Nat.le_refl _)) (Nat.le_refl _)⟩
        · go_simp
          refine (HL.out _).mono ?_
          rintro e u ⟨rfl, y⟩
          have S0 := Lib.hid (heap_below S0.out y)
          have L0 := Lib.hid (heap_below L0.out y)
          have DD := Lib.hid (DD.out.below y)
          have U := Lib.hid (U.out.trans (y.mono U.out.size))
          have d0 := cell2_0 S0.out
          have d1 := cell2_1 S0.out
          clear y
          refine hK _ _ ?_
          clear hK K
          refine wpAny_ready (rs := [0, 3]) (by kernel_rfl) (by simp) ?_
          refine AllReady.cons rfl (fun K hK => ?_) (AllReady.cons rfl (fun K hK => ?_) AllReady.nil)
          · go_simp
            refine hK _ _ ?_
            clear hK K
            refine wpAny_ready (rs := [3]) (by kernel_rfl) (by simp) ?_
            refine AllReady.cons rfl (fun K hK => ?_) AllReady.nil
            go_simp
            refine (HS.out _).mono ?_
            rintro e u ⟨rfl, y⟩
            have S0 := Lib.hid (heap_below S0.out y)
            have L0 := Lib.hid (heap_below L0.out y)
            have DD := Lib.hid (DD.out.below y)
            have U := Lib.hid (U.out.trans (y.mono U.out.size))
            have d0 := cell2_0 S0.out
            have d1 := cell2_1 S0.out
            clear y
            refine hK _ _ ?_
            clear hK K
            refine wpAny_ready (rs := [5]) (by kernel_rfl) (by simp) ?_
            refine AllReady.cons rfl (fun K hK => ?_) AllReady.nil
            go_simp
            refine (HFo.out _ (hT.out.below U.out)).mono ?_
            rintro e u ⟨rfl, y⟩
            have S0 := Lib.hid (heap_below S0.out y)
            have L0 := Lib.hid (heap_below L0.out y)
            have DD := Lib.hid (DD.out.below y)
            have U := Lib.hid (U.out.trans (y.mono U.out.size))
            have d0 := cell2_0 S0.out
            have d1 := cell2_1 S0.out
            clear y
            refine hK _ _ ?_
            clear hK K
            refine wpAny_take (i := 6) (v := ?_) rfl (by kernel_rfl) (by kernel_rfl) (by kernel_rfl) (fun _ _ _ h => h) (Or.inl ⟨by rfl, ?_⟩) ?_
            rotate_left
            · intro Wt; go_simp; with_reducible rfl
            refine wpAny_ready (rs := [7]) (by kernel_rfl) (by simp) ?_
            refine AllReady.cons rfl (fun K hK => ?_) AllReady.nil
            go_simp
            refine (HW.out _ _ DD.out).mono ?_
            rintro e u ⟨v', rfl, D8, y⟩
            have S0 := Lib.hid (heap_below S0.out y)
            have L0 := Lib.hid (heap_below L0.out y)
            have DD := Lib.hid (DD.out.below y)
            have U := Lib.hid (U.out.trans (y.mono U.out.size))
            have d0 := cell2_0 S0.out
            have d1 := cell2_1 S0.out
            clear y
            obtain ⟨a8, m8, c8, n8, rfl, _⟩ := D8.form
            have f0 := frozen2 S0.out 0
            have f1 := frozen2 S0.out 1
            refine hK _ _ ?_
            clear hK K
            refine wpAny_take (i := 8) (v := ?_) rfl (by kernel_rfl) (by kernel_rfl) (by kernel_rfl) (fun _ _ _ h => h) (Or.inl ⟨by rfl, ?_⟩) ?_
            rotate_left
            · intro Wt; go_simp; with_reducible rfl
            refine wpAny_take (i := 9) (v := ?_) rfl (by kernel_rfl) (by kernel_rfl) (by kernel_rfl) (fun _ _ _ h => h) (Or.inl ⟨by rfl, ?_⟩) ?_
            rotate_left
            · intro Wt; go_simp; with_reducible rfl
            refine wpAny_take (i := 10) (v := ?_) rfl (by kernel_rfl) (by kernel_rfl) (by kernel_rfl) (fun _ _ _ h => h) (Or.inl ⟨by rfl, ?_⟩) ?_
            rotate_left
            · intro Wt; go_simp; with_reducible rfl
            refine wpAny_ready (rs := [11]) (by kernel_rfl) (by simp) ?_
            refine AllReady.cons rfl (fun K hK => ?_) AllReady.nil
            go_simp
            refine hK _ _ ?_
            clear hK K
            refine wpAny_done (by kernel_rfl) ?_ _
            go_wp2_with fail
            go_meet
            exact ⟨a8, m8, c8, n8, set_two S0.out, disk_apart (j := 1) (disk_apart (j := 0) D8 S0.out) (Lib.heap_setCell_same (i := 0) S0.out _), two_other (by omega) L0.out, below_set (below_set U.out (Nat.le_refl _)) (Nat.le_refl _)⟩
          · go_simp
            refine (HS.out _).mono ?_
            rintro e u ⟨rfl, y⟩
            have S0 := Lib.hid (heap_below S0.out y)
            have L0 := Lib.hid (heap_below L0.out y)
            have DD := Lib.hid (DD.out.below y)
            have U := Lib.hid (U.out.trans (y.mono U.out.size))
            have d0 := cell2_0 S0.out
            have d1 := cell2_1 S0.out
            clear y
            refine hK _ _ ?_
            clear hK K
            refine wpAny_ready (rs := [0, 5]) (by kernel_rfl) (by simp) ?_
            refine AllReady.cons rfl (fun K hK => ?_) (AllReady.cons rfl (fun K hK => ?_) AllReady.nil)
            · go_simp
              refine hK _ _ ?_
              clear hK K
              refine wpAny_ready (rs := [5]) (by kernel_rfl) (by simp) ?_
              refine AllReady.cons rfl (fun K hK => ?_) AllReady.nil
              go_simp
              refine (HFo.out _ (hT.out.below U.out)).mono ?_
              rintro e u ⟨rfl, y⟩
              have S0 := Lib.hid (heap_below S0.out y)
              have L0 := Lib.hid (heap_below L0.out y)
              have DD := Lib.hid (DD.out.below y)
              have U := Lib.hid (U.out.trans (y.mono U.out.size))
              have d0 := cell2_0 S0.out
              have d1 := cell2_1 S0.out
              clear y
              refine hK _ _ ?_
              clear hK K
              refine wpAny_take (i := 6) (v := ?_) rfl (by kernel_rfl) (by kernel_rfl) (by kernel_rfl) (fun _ _ _ h => h) (Or.inl ⟨by rfl, ?_⟩) ?_
              rotate_left
              · intro Wt; go_simp; with_reducible rfl
              refine wpAny_ready (rs := [7]) (by kernel_rfl) (by simp) ?_
              refine AllReady.cons rfl (fun K hK => ?_) AllReady.nil
              go_simp
              refine (HW.out _ _ DD.out).mono ?_
              rintro e u ⟨v', rfl, D8, y⟩
              have S0 := Lib.hid (heap_below S0.out y)
              have L0 := Lib.hid (heap_below L0.out y)
              have DD := Lib.hid (DD.out.below y)
              have U := Lib.hid (U.out.trans (y.mono U.out.size))
              have d0 := cell2_0 S0.out
              have d1 := cell2_1 S0.out
              clear y
              obtain ⟨a8, m8, c8, n8, rfl, _⟩ := D8.form
              have f0 := frozen2 S0.out 0
              have f1 := frozen2 S0.out 1
              refine hK _ _ ?_
              clear hK K
              refine wpAny_take (i := 8) (v := ?_) rfl (by kernel_rfl) (by kernel_rfl) (by kernel_rfl) (fun _ _ _ h => h) (Or.inl ⟨by rfl, ?_⟩) ?_
              rotate_left
              · intro Wt; go_simp; with_reducible rfl
              refine wpAny_take (i := 9) (v := ?_) rfl (by kernel_rfl) (by kernel_rfl) (by kernel_rfl) (fun _ _ _ h => h) (Or.inl ⟨by rfl, ?_⟩) ?_
              rotate_left
              · intro Wt; go_simp; with_reducible rfl
              refine wpAny_take (i := 10) (v := ?_) rfl (by kernel_rfl) (by kernel_rfl) (by kernel_rfl) (fun _ _ _ h => h) (Or.inl ⟨by rfl, ?_⟩) ?_
              rotate_left
              · intro Wt; go_simp; with_reducible rfl
              refine wpAny_ready (rs := [11]) (by kernel_rfl) (by simp) ?_
              refine AllReady.cons rfl (fun K hK => ?_) AllReady.nil
              go_simp
              refine hK _ _ ?_
              clear hK K
              refine wpAny_done (by kernel_rfl) ?_ _
              go_wp2_with fail
              go_meet
              exact ⟨a8, m8, c8, n8, set_two S0.out, disk_apart (j := 1) (disk_apart (j := 0) D8 S0.out) (Lib.heap_setCell_same (i := 0) S0.out _), two_other (by omega) L0.out, below_set (below_set U.out (Nat.le_refl _)) (Nat.le_refl _)⟩
            · go_simp
              refine (HFo.out _ (hT.out.below U.out)).mono ?_
              rintro e u ⟨rfl, y⟩
              have S0 := Lib.hid (heap_below S0.out y)
              have L0 := Lib.hid (heap_below L0.out y)
              have DD := Lib.hid (DD.out.below y)
              have U := Lib.hid (U.out.trans (y.mono U.out.size))
              have d0 := cell2_0 S0.out
              have d1 := cell2_1 S0.out
              clear y
              refine hK _ _ ?_
              clear hK K
              refine wpAny_take (i := 6) (v := ?_) rfl (by kernel_rfl) (by kernel_rfl) (by kernel_rfl) (fun _ _ _ h => h) (Or.inl ⟨by rfl, ?_⟩) ?_
              rotate_left
              · intro Wt; go_simp; with_reducible rfl
              refine wpAny_ready (rs := [0]) (by kernel_rfl) (by simp) ?_
              refine AllReady.cons rfl (fun K hK => ?_) AllReady.nil
              go_simp
              refine hK _ _ ?_
              clear hK K
              refine wpAny_ready (rs := [7]) (by kernel_rfl) (by simp) ?_
              refine AllReady.cons rfl (fun K hK => ?_) AllReady.nil
              go_simp
              refine (HW.out _ _ DD.out).mono ?_
              rintro e u ⟨v', rfl, D8, y⟩
              have S0 := Lib.hid (heap_below S0.out y)
              have L0 := Lib.hid (heap_below L0.out y)
              have DD := Lib.hid (DD.out.below y)
              have U := Lib.hid (U.out.trans (y.mono U.out.size))
              have d0 := cell2_0 S0.out
              have d1 := cell2_1 S0.out
              clear y
              obtain ⟨a8, m8, c8, n8, rfl, _⟩ := D8.form
              have f0 := frozen2 S0.out 0
              have f1 := frozen2 S0.out 1
              refine hK _ _ ?_
              clear hK K
              refine wpAny_take (i := 8) (v := ?_) rfl (by kernel_rfl) (by kernel_rfl) (by kernel_rfl) (fun _ _ _ h => h) (Or.inl ⟨by rfl, ?_⟩) ?_
              rotate_left
              · intro Wt; go_simp; with_reducible rfl
              refine wpAny_take (i := 9) (v := ?_) rfl (by kernel_rfl) (by kernel_rfl) (by kernel_rfl) (fun _ _ _ h => h) (Or.inl ⟨by rfl, ?_⟩) ?_
              rotate_left
              · intro Wt; go_simp; with_reducible rfl
              refine wpAny_take (i := 10) (v := ?_) rfl (by kernel_rfl) (by kernel_rfl) (by kernel_rfl) (fun _ _ _ h => h) (Or.inl ⟨by rfl, ?_⟩) ?_
              rotate_left
              · intro Wt; go_simp; with_reducible rfl
              refine wpAny_ready (rs := [11]) (by kernel_rfl) (by simp) ?_
              refine AllReady.cons rfl (fun K hK => ?_) AllReady.nil
              go_simp
              refine hK _ _ ?_
              clear hK K
              refine wpAny_done (by kernel_rfl) ?_ _
              go_wp2_with fail
              go_meet
              exact ⟨a8, m8, c8, n8, set_two S0.out, disk_apart (j := 1) (disk_apart (j := 0) D8 S0.out) (Lib.heap_setCell_same (i := 0) S0.out _), two_other (by omega) L0.out, below_set (below_set U.out (Nat.le_refl _)) (Nat.le_refl _)⟩
      case rest =>
        obtain ⟨a8, m8, c8, n8, S8, D8, L8, U8⟩ := hcut
        clear d0 d1 DD S0 L0 U HL HS HFo HW hMb zF z1
        have d0 := cell2_0 S8
        have d1 := cell2_1 S8
        have f0 := frozen2 S8 0
        have f1 := frozen2 S8 1
        obtain ⟨r3, h3⟩ : ∃ r, r = syncD r2.1 := ⟨_, rfl⟩
        have HY := Lib.hid (fun v W h => Sync_any r2.1 v W h)
        rw [← h3] at HY
        have hr2 := Lib.hid (hR'.out.trans (format_done hC'.out hc'.out (by rw [← hcp'.out]; exact Int.not_lt.2 hl) hr1'.out e2.out h3))
        clear h3
        go_wp2_with fail
        refine (HY.out _ _ D8).mono ?_
        rintro e w9 ⟨v', rfl, D9, b9⟩
        obtain ⟨a9, m9, c9, n9, rfl, _⟩ := D9.form
        have S9 := heap_below S8 b9
        have L9 := heap_below L8 b9
        have U9 := U8.trans (b9.mono U8.size)
        clear d0 d1 f0 f1 S8 D8 L8 b9
        have d0 := cell2_0 S9
        have d1 := cell2_1 S9
        have f0 := frozen2 S9 0
        have f1 := frozen2 S9 1
        go_upto_region 9 with (fail)
        have S10 := set_two (x' := (.slice a9 r3.1.1.length m9)) (y' := (.slice c9 r3.1.2.length n9)) S9
        have D10 := disk_apart (j := 1) (u := (.slice c9 r3.1.2.length n9)) (disk_apart (j := 0) (u := (.slice a9 r3.1.1.length m9)) D9 S9) (Lib.heap_setCell_same (i := 0) S9 _)
        have L10 := two_other (j := 0) (j' := 1) (u := (.slice a9 r3.1.1.length m9)) (u' := (.slice c9 r3.1.2.length n9)) (b := w.heap.size) (by omega) L9
        have U10 := below_set (j := 1) (u := (.slice c9 r3.1.2.length n9)) (below_set (j := 0) (u := (.slice a9 r3.1.1.length m9)) U9 (Nat.le_refl _)) (Nat.le_refl _)
        generalize (w9.setCell ⟨w.heap.size, 0, none⟩ (.slice a9 r3.1.1.length m9)).setCell ⟨w.heap.size, 1, none⟩ (.slice c9 r3.1.2.length n9) = W10 at *
        clear d0 d1 f0 f1 S9 D9 L9
        have d0 := cell2_0 S10
        have d1 := cell2_1 S10
        have f0 := frozen2 S10 0
        have f1 := frozen2 S10 1
        have g0 := cell2_0 L10
        have g1 := cell2_1 L10
        have f2 := frozen2 L10 0
        have f3 := frozen2 L10 1
        go_wp2
        exact ret4 (g := 1) (z := 0) (k := 0) rfl rfl rfl rfl rfl S10 L10 (by omega) (by simp) (by simp) (by simp) (by simp) U10 (Nat.le_refl _) (by omega) (by rw [hr2.out]; exact D10) (by rw [hr2.out]) (by rw [hr2.out]) (by rw [hr2.out])
  · have hc1 : ((C.2 : Int) != 0) = true := by simp; omega
    have hr2 := Lib.hid (hR'.out.trans (format_f1 hC'.out hc))
    have z0 := cell2_0 K2
    have z1 := cell2_1 K2
    have z3 := cell2_0 K3
    have z4 := cell2_1 K3
    have f0 := frozen2 K2 0
    have f1 := frozen2 K2 1
    have f2 := frozen2 K3 0
    have f3 := frozen2 K3 1
    clear hc
    go_wp2
    exact ret4_none rfl rfl rfl rfl rfl K2 K3 (by omega) (by simp) (by simp) B2.out (Nat.le_refl _) (by omega) hr2.out
end Go.Proofs.YtmfbkelhegdmpaaGreatDoor
