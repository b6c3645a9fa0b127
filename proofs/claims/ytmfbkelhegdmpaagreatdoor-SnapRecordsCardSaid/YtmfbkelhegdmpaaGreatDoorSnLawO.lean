/- The walk of SnapRecords, chapter 13 (snap). -/
import Derived.Test.YtmfbkelhegdmpaaGreatDoorSnLawK
import Derived.Test.YtmfbkelhegdmpaaGreatDoorSnLawN
namespace Go.Proofs.YtmfbkelhegdmpaaGreatDoor
open Go.RowKit Disk11 Journal12 Sum2

set_option maxHeartbeats 8000000 in
set_option maxRecDepth 100000 in
theorem SnapRecords_any (nums : List Int) (v : Value) (w : World) (hwf : ∀ n ∈ nums, I64 n) (hr : Row w 1 v nums.length (nums.map fun n => .int .i64 n)) (ht : Tab w) :
    Calls Tryz.prog 7 #[v] w fun e w' => e = .returned (.bool true) ∧ Below w.heap.size w w' := by
  have HS := Lib.hid (fun W t => SnapKnown_any W t)
  have HW := Lib.hid (fun W r t => written_any13 nums v W hwf r t)
  have HG := Lib.hid (fun (D : Dev) (L : List (List UInt8)) (h : LaidS 12 D 1 stateB L) (hl : L.length ≤ 6) v vl W hd hr t => laid_gives h (by decide) (by omega) v vl W hd hr t)
  rw [show ((1 : Nat) : Int) = 1 from rfl] at HG
  have hT := Lib.hid ht
  have p_0 := hr
  have t0 := Below.refl w.heap.size w
  clear ht hr
  go_enter Tryz.func7, Tryz.ntmps7
  go_wp2_with fail
  refine (HS.out _ (hT.out.below t0)).mono ?_
  rintro e w1 ⟨rfl, b1⟩
  have p_1 := p_0.below b1
  have t1 := t0.trans (b1.mono t0.size)
  clear p_0 t0 b1
  go_wp2_with fail
  refine (HW.out _ p_1 (hT.out.below t1)).mono ?_
  rintro e w2 ⟨D, L, ab2, cb2, ac2, cc2, al2, cl2, rfl, P1, P2, P3, P4, d_r, r_r, b2⟩
  obtain ⟨D_2, G_2, _, a2⟩ := alloc2 w2 (.cells #[.slice ab2 D.1.length cb2, .slice ac2 D.2.length cc2] 29) (.cells #[.int .u64 1, .int .i64 ((sizeJ (withS (putN 1) L) : Nat) : Int)] 32)
  have c2 := b2.trans (a2.mono b2.size)
  have p_2 := p_1.below c2
  have t2 := t1.trans (c2.mono t1.size)
  have d_2 := d_r.below a2
  have r_2 := r_r.below a2
  clear p_1 t1 d_r r_r a2 b2 c2
  go_upto_region 3 with (fail)
  generalize (World.alloc (World.alloc w2 (.cells #[.slice ab2 D.1.length cb2, .slice ac2 D.2.length cc2] 29)) (.cells #[.int .u64 1, .int .i64 ((sizeJ (withS (putN 1) L) : Nat) : Int)] 32)) = W2 at *
  have Dx0 := cell2_0 D_2
  have Dx1 := cell2_1 D_2
  have Gx0 := cell2_0 G_2
  have Gx1 := cell2_1 G_2
  have HGi := Lib.hid (fun v vl W hd hr t => HG.out D L P1 P3 v vl W hd hr t)
  have r2 := Row.of_own r_2
  clear P1 P2 P3 P4 r_2 HG
  go_wp2_with fail
  refine (HGi.out _ _ _ d_2 r2 (hT.out.below t2)).mono ?_
  rintro e w' ⟨rfl, b6⟩
  go_wp2
  go_ret
  exact ⟨rfl, t2.trans (b6.mono t2.size)⟩
end Go.Proofs.YtmfbkelhegdmpaaGreatDoor
