/- The walks of region, read, blank, chapter 12 (journal). -/
import Derived.Test.YthhghggaoljcbaaDoorJournalC
import Derived.Lib.Hide
namespace Go.Proofs.YthhghggaoljcbaaDoor
open Go.RowKit Disk11 Journal12

set_option maxHeartbeats 4000000 in
set_option maxRecDepth 100000 in
theorem region_any (d : Dev) (v : Value) (f b : Nat) (w : World) (h : DiskIs w d v) (hg : Disk11.Good d) (hf : f + b ≤ d.1.length) :
    Calls Tryd.prog 49 #[v, .agg #[.int .i64 (f : Int), .int .i64 (b : Int)]] w fun e w' => e = .returned (.string ⟨(regJ d ((f : Int), (b : Int))).toArray⟩) ∧ Below w.heap.size w w' := by
  have hl := hg.2.1
  have HR := Lib.hid (fun W h => Read_any d v (64 * (f : Int)) (64 * (b : Int)) W h)
  rw [regJ_read hg hf] at HR
  dsimp only at HR
  have HL := Lib.hid (fun W => length_any (f : Int) (b : Int) W (by omega) (by omega))
  have hD := Lib.hid h
  obtain ⟨R, hR⟩ : ∃ R, R = regJ d ((f : Int), (b : Int)) := ⟨_, rfl⟩
  rw [← hR] at HR ⊢
  clear hR hg
  obtain ⟨ab, cb, ac, cc, rfl, _, _, hbc, _⟩ := h.form
  clear h hbc
  obtain ⟨k1, k2, hsz, hbl⟩ := alloc2 w (.cells #[.slice ab d.1.length cb, .slice ac d.2.length cc] 25) (.cells #[.int .i64 (f : Int), .int .i64 (b : Int)] 27)
  have c0 := cell2_0 k1
  have c1 := cell2_1 k1
  have r0 := cell2_0 k2
  have r1 := cell2_1 k2
  have B := Lib.hid hbl.drew
  have e1 : IntKind.i64.wrap (64 * (f : Int)) = 64 * (f : Int) := by rw [IntKind.wrap_i64]; omega
  clear k1 k2 hsz hbl
  go_enter Tryd.func49, Tryd.ntmps49
  go_wp2_with fail
  go_region_held3 (fun V => V.cell? ⟨w.heap.size, 0, none⟩ = some (.slice ab d.1.length cb) ∧ V.cell? ⟨w.heap.size, 1, none⟩ = some (.slice ac d.2.length cc) ∧ V.cell? ⟨w.heap.size + 1, 0, none⟩ = some (.int .i64 (f : Int)) ∧ V.cell? ⟨w.heap.size + 1, 1, none⟩ = some (.int .i64 (b : Int)))
    (first | exact ⟨c0, c1, r0, r1⟩ | exact ⟨o0, o1, o2, o3⟩ | exact ⟨p0, p1, p2, p3⟩ | go_keep)
    (first
      | (go_at_call 47; refine (HL.out _).mono ?_; rintro e w5 ⟨rfl, b5⟩
         have o0 := cell_below b5 c0; have o1 := cell_below b5 c1; have o2 := cell_below b5 r0; have o3 := cell_below b5 r1
         have B5 := Lib.hid (B.out.trans (b5.mono B.out.size)))
      | (go_at_call 41; refine (HR.out _ (hD.out.below B5.out)).mono ?_; rintro e w6 ⟨rfl, b6⟩
         have p0 := cell_below b6 o0; have p1 := cell_below b6 o1; have p2 := cell_below b6 o2; have p3 := cell_below b6 o3
         have B6 := Lib.hid (B5.out.trans (b6.mono B5.out.size))))
  go_wp2
  go_ret
  exact ⟨rfl, B6.out⟩

theorem regJ_part {d : Dev} {f b q n : Nat} (h : Disk11.Good d) (hf : f + b ≤ d.1.length) (hq : q + n ≤ 64 * b) : readD d (64 * (f : Int) + (q : Int)) (n : Int) = (((regJ d ((f : Int), (b : Int))).drop q).take n, 0) := by
  unfold readD
  have hi : inside (Disk11.size d) (64 * (f : Int) + (q : Int)) (n : Int) = true := by rw [inside_iff]; unfold Disk11.size; omega
  rw [good_chk h, if_neg (by simp), hi, if_neg (by simp), regJ_nat]
  have e1 : (64 * (f : Int) + (q : Int)).toNat = 64 * f + q := by omega
  rw [e1, Int.toNat_natCast, List.drop_take, List.drop_drop, List.take_take, Nat.min_eq_left (by omega)]
set_option maxHeartbeats 4000000 in
set_option maxRecDepth 100000 in
theorem Rread_any (d : Dev) (v : Value) (f b q n : Nat) (w : World) (h : DiskIs w d v) (hg : Disk11.Good d) (hf : f + b ≤ d.1.length) (hq : q + n ≤ 64 * b) :
    Calls Tryd.prog 54 #[v, .agg #[.int .i64 (f : Int), .int .i64 (b : Int)], .int .i64 (q : Int), .int .i64 (n : Int)] w fun e w' => e = .returned (.string ⟨(((regJ d ((f : Int), (b : Int))).drop q).take n).toArray⟩) ∧ Below w.heap.size w w' := by
  have hl := hg.2.1
  have HR := Lib.hid (fun W h => RRead_any d v (64 * (f : Int) + (q : Int)) (n : Int) W h)
  rw [regJ_part hg hf hq] at HR
  dsimp only at HR
  have hD := Lib.hid h
  obtain ⟨R, hR⟩ : ∃ R, R = ((regJ d ((f : Int), (b : Int))).drop q).take n := ⟨_, rfl⟩
  rw [← hR] at HR ⊢
  clear hR hg
  obtain ⟨ab, cb, ac, cc, rfl, _, _, hbc, _⟩ := h.form
  clear h hbc
  obtain ⟨k1, k2, hsz, hbl⟩ := alloc2 w (.cells #[.slice ab d.1.length cb, .slice ac d.2.length cc] 25) (.cells #[.int .i64 (f : Int), .int .i64 (b : Int)] 27)
  have r0 := cell2_0 k2
  have B := Lib.hid hbl
  have e1 : IntKind.i64.wrap (64 * (f : Int)) = 64 * (f : Int) := by rw [IntKind.wrap_i64]; omega
  clear k1 k2 hsz hbl
  go_enter Tryd.func54, Tryd.ntmps54
  go_wp2_with fail
  refine (HR.out _ (hD.out.below B.out)).mono ?_
  rintro e w5 ⟨rfl, b5⟩
  have B5 := Lib.hid (B.out.trans (b5.mono B.out.size))
  clear b5 r0
  go_wp2
  go_ret
  exact ⟨rfl, B5.out⟩

theorem blank_to {x : List UInt8} (h : ∀ (k : Nat) (hk : k < x.length), x[k] = 0) : blankJ x = true := by
  unfold blankJ
  rw [List.all_eq_true]
  intro b hb
  obtain ⟨k, hk, rfl⟩ := List.getElem_of_mem hb
  simp [h k hk]
theorem blank_no {x : List UInt8} {k : Nat} (hk : k < x.length) (h : x[k] ≠ 0) : blankJ x = false := by
  unfold blankJ
  rw [List.all_eq_false]
  exact ⟨x[k], List.getElem_mem hk, by simpa using h⟩
set_option maxHeartbeats 1000000 in
set_option maxRecDepth 100000 in
theorem blank_any (x : List UInt8) (w : World) (hx : x.length ≤ 4611686018427387904) :
    Calls Tryd.prog 53 #[.string ⟨x.toArray⟩] w fun e w' => e = .returned (.bool (blankJ x)) ∧ w' = w := by
  have hs : (⟨x.toArray⟩ : ByteArray).size = x.length := rfl
  go_enter Tryd.func53, Tryd.ntmps53
  go_wp2_with fail
  go_loop [3] (fun i => ∃ k : Nat, k ≤ x.length ∧ i = .int .i64 k ∧ Hid (∀ (j : Nat) (hj : j < x.length), j < k → x[j] = 0)) (fun i => x.length - (intOf i).toNat)
  case atStart => exact ⟨0, Nat.zero_le _, rfl, fun _ _ h => absurd h (Nat.not_lt_zero _)⟩
  case round =>
    obtain ⟨k, hk, rfl, hz⟩ := hrel
    by_cases hlt : k < x.length
    · have hg : ((⟨x.toArray⟩ : ByteArray)[k]'hlt) = x[k] := rfl
      by_cases h0 : x[k] = 0
      · have hb : ((x[k].toNat : Int) == 0) = true := by rw [h0]; rfl
        go_wp2
        go_round
        case rel => exact ⟨k + 1, by omega, by go_num, fun j hj hjk => by
          by_cases e : j = k
          · subst e; exact h0
          · exact hz.out j hj (by omega)⟩
        case measure => simp [intOf]; omega
      · have hb : ((x[k].toNat : Int) == 0) = false := by
          rw [beq_eq_false_iff_ne]; intro e; exact h0 (UInt8.toNat_inj.1 (by simpa using e))
        go_wp2
        go_ret
        exact ⟨by rw [blank_no hlt h0]; rfl, rfl⟩
    · go_wp2
      go_ret
      exact ⟨by rw [blank_to fun j hj => hz.out j hj (by omega)]; rfl, rfl⟩
end Go.Proofs.YthhghggaoljcbaaDoor
