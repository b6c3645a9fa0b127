/- The walks of Clean, chapter 12 (journal), the program's and the reference's. -/
import Derived.Test.YtmfbkelhegdmpaaGreatDoorJournalBD
import Derived.Test.YtmfbkelhegdmpaaGreatDoorShelf
namespace Go.Proofs.YtmfbkelhegdmpaaGreatDoor
open Go.RowKit Disk11 Journal12

theorem tw_all {p : UInt8 → Bool} : ∀ (l : List UInt8) (b : UInt8), b ∈ l.takeWhile p → p b = true
  | [], b, h => by simp at h
  | a :: l, b, h => by
    by_cases ha : p a = true
    · rw [List.takeWhile_cons_of_pos ha] at h
      rcases List.mem_cons.1 h with rfl | h
      · exact ha
      · exact tw_all l b h
    · rw [List.takeWhile_cons_of_neg ha] at h; simp at h
theorem dw_nil {p : UInt8 → Bool} {l : List UInt8} : l.dropWhile p = [] ↔ ∀ b ∈ l, p b = true := by
  induction l with
  | nil => simp
  | cons a l ih =>
    by_cases h : p a = true
    · rw [List.dropWhile_cons_of_pos h, ih]
      simp [h]
    · rw [List.dropWhile_cons_of_neg h]
      simp [h]
theorem trim_empty (x : List UInt8) : (Lib.trimB x 0).isEmpty = blankJ x := by
  unfold Lib.trimB Lib.trimLeftB Lib.trimRightB blankJ
  rw [Bool.eq_iff_iff]
  constructor
  · intro h
    have h1 : ((x.reverse.dropWhile (· == 0)).reverse).dropWhile (· == 0) = [] := by simpa using h
    rw [dw_nil] at h1
    rw [List.all_eq_true]
    intro b hb
    rcases List.mem_append.1 (by rw [List.takeWhile_append_dropWhile]; exact List.mem_reverse.2 hb : b ∈ x.reverse.takeWhile (· == 0) ++ x.reverse.dropWhile (· == 0)) with k | k
    · exact tw_all _ b k
    · exact h1 b (List.mem_reverse.2 k)
  · intro h
    rw [List.all_eq_true] at h
    have h2 : x.reverse.dropWhile (· == 0) = [] := by
      rw [dw_nil]
      intro b hb; exact h b (List.mem_reverse.1 hb)
    rw [h2]; rfl
theorem trim_any (x : List UInt8) (w : World) (hx : x.length ≤ 9223372036854775807) :
    Calls Tryz.prog 98 #[.string ⟨x.toArray⟩, .string ⟨#[0]⟩] w fun e w' => e = .returned (.string ⟨(Lib.trimB x 0).toArray⟩) ∧ Below w.heap.size w w' :=
  (Tryz.strings_Trim_one ⟨x.toArray⟩ 0 (by decide) w hx).mono fun e w' ⟨h1, h2⟩ => ⟨h1, by rcases h2 with rfl | rfl <;> first | exact Below.refl _ _ | exact (Below.refl _ _).drew⟩
theorem clean_cases (d : Dev) (f b p : Int) : (placedJ d (f, b) p ≠ 0 ∧ cleanJ d (f, b) p = (false, placedJ d (f, b) p)) ∨ (placedJ d (f, b) p = 0 ∧ cleanJ d (f, b) p = (blankJ ((regJ d (f, b)).drop p.toNat), 0)) := by
  unfold cleanJ
  by_cases h : placedJ d (f, b) p = 0
  · rw [h]; simp
  · exact .inl ⟨h, by rw [if_pos h]⟩
set_option maxHeartbeats 4000000 in
set_option maxRecDepth 100000 in
theorem Clean_any (d : Dev) (v : Value) (f b p : Int) (w : World) (h : DiskIs w d v) :
    Calls Tryz.prog 55 #[v, .agg #[.int .i64 f, .int .i64 b], .int .i64 p] w fun e w' => e = .returned (.tuple #[.bool (cleanJ d (f, b) p).1, .int .i64 (cleanJ d (f, b) p).2]) ∧ Below w.heap.size w w' := by
  have HC := Lib.hid (fun W h => placed_any d v f b p W h)
  have hD := Lib.hid h
  obtain ⟨ab, cb, ac, cc, rfl, _, _, hbc, _⟩ := h.form
  clear h hbc
  obtain ⟨k1, k2, hsz, hbl⟩ := alloc2 w (.cells #[.slice ab d.1.length cb, .slice ac d.2.length cc] 29) (.cells #[.int .i64 f, .int .i64 b] 65)
  rcases clean_cases d f b p with ⟨h1, h2⟩ | ⟨h1, h2⟩
  · rw [h2]
    obtain ⟨c, hc⟩ : ∃ c, c = placedJ d (f, b) p := ⟨_, rfl⟩
    rw [← hc] at h1 HC ⊢
    have h0' : ((c : Int) == 0) = false := by simp; exact h1
    clear hc h1 h2
    go_enter Tryz.func55, Tryz.ntmps55
    go_wp2_with fail
    refine (HC.out _ (hD.out.below hbl)).mono ?_
    rintro e w1 ⟨rfl, b1⟩
    have hb1 := Lib.hid (hbl.trans (b1.mono hbl.size))
    clear k1 k2 hsz hbl b1
    go_wp2
    exact bodyPost_ret (results_tmp2 rfl _ _ _) rfl ⟨rfl, hb1.out⟩
  · obtain ⟨hg, f', b', q, e1, rfl, hb, hf, hq⟩ := placedJ_ok h1
    simp only [Prod.mk.injEq] at e1
    obtain ⟨rfl, rfl⟩ := e1
    rw [h2, Int.toNat_natCast]
    rw [h1] at HC
    have hrl := regJ_length hg hf
    have HR := Lib.hid (fun W h => region_any d (.agg #[.slice ab d.1.length cb, .slice ac d.2.length cc]) f' b' W h hg hf)
    have hl := hg.2.1
    obtain ⟨R, hR⟩ : ∃ R, R = regJ d ((f' : Int), (b' : Int)) := ⟨_, rfl⟩
    rw [← hR] at HR hrl ⊢
    clear hR
    have hsl := fun W => sub_high R q (by omega) W
    have hrb : R.length ≤ 262144 := by omega
    have HT := Lib.hid (fun W => trim_any (R.drop q) W (by rw [List.length_drop]; omega))
    have hte := trim_empty (R.drop q)
    obtain ⟨T, hT⟩ : ∃ T, T = Lib.trimB (R.drop q) 0 := ⟨_, rfl⟩
    rw [← hT] at HT hte
    obtain ⟨X, hX⟩ : ∃ X, X = R.drop q := ⟨_, rfl⟩
    rw [← hX] at HT hte hsl ⊢
    rw [← hte]
    clear hT hX hrl hrb h1 h2 hg hte
    go_enter Tryz.func55, Tryz.ntmps55
    go_wp2_with fail
    refine (HC.out _ (hD.out.below hbl)).mono ?_
    rintro e w1 ⟨rfl, b1⟩
    have k1' := heap_below k1 b1
    have k2' := heap_below k2 b1
    have hb1 := Lib.hid (hbl.trans (b1.mono hbl.size))
    have c0 := cell2_0 k1'
    have c1 := cell2_1 k1'
    have r0 := cell2_0 k2'
    have r1 := cell2_1 k2'
    clear k1 k2 hsz hbl b1 k1' k2'
    go_wp2_with fail
    refine (HR.out _ (hD.out.below hb1.out)).mono ?_
    rintro e w2 ⟨rfl, b2⟩
    have hb2 := Lib.hid (hb1.out.trans (b2.mono hb1.out.size))
    clear b2
    go_wp2_with fail
    refine (HT.out _).mono ?_
    rintro e w3 ⟨rfl, b3⟩
    have hb3 := Lib.hid (hb2.out.trans (b3.mono hb2.out.size))
    clear b3
    go_wp2
    exact bodyPost_ret (results_tmp2 rfl _ _ _) rfl ⟨rfl, hb3.out⟩
set_option maxHeartbeats 4000000 in
set_option maxRecDepth 100000 in
theorem RClean_any (d : Dev) (v : Value) (f b p : Int) (w : World) (h : DiskIs w d v) :
    Calls Tryz.prog 63 #[v, .agg #[.int .i64 f, .int .i64 b], .int .i64 p] w fun e w' => e = .returned (.tuple #[.bool (cleanJ d (f, b) p).1, .int .i64 (cleanJ d (f, b) p).2]) ∧ Below w.heap.size w w' := by
  have HC := Lib.hid (fun W h => Rplaced_any d v f b p W h)
  have hD := Lib.hid h
  obtain ⟨ab, cb, ac, cc, rfl, _, _, hbc, _⟩ := h.form
  clear h hbc
  obtain ⟨k1, k2, hsz, hbl⟩ := alloc2 w (.cells #[.slice ab d.1.length cb, .slice ac d.2.length cc] 29) (.cells #[.int .i64 f, .int .i64 b] 65)
  rcases clean_cases d f b p with ⟨h1, h2⟩ | ⟨h1, h2⟩
  · rw [h2]
    obtain ⟨c, hc⟩ : ∃ c, c = placedJ d (f, b) p := ⟨_, rfl⟩
    rw [← hc] at h1 HC ⊢
    have h0' : ((c : Int) == 0) = false := by simp; exact h1
    clear hc h1 h2
    go_enter Tryz.func63, Tryz.ntmps63
    go_wp2_with fail
    refine (HC.out _ (hD.out.below hbl)).mono ?_
    rintro e w1 ⟨rfl, b1⟩
    have hb1 := Lib.hid (hbl.trans (b1.mono hbl.size))
    clear k1 k2 hsz hbl b1
    go_wp2
    exact bodyPost_ret (results_tmp2 rfl _ _ _) rfl ⟨rfl, hb1.out⟩
  · obtain ⟨hg, f', b', q, e1, rfl, hb, hf, hq⟩ := placedJ_ok h1
    simp only [Prod.mk.injEq] at e1
    obtain ⟨rfl, rfl⟩ := e1
    rw [h2, Int.toNat_natCast]
    rw [h1] at HC
    have hrl := regJ_length hg hf
    have hl := hg.2.1
    have HR := Lib.hid (fun W h => Rread_any d (.agg #[.slice ab d.1.length cb, .slice ac d.2.length cc]) f' b' q (64 * b' - q) W h hg hf (by omega))
    rw [List.take_of_length_le (by rw [List.length_drop, hrl]; exact Nat.le_refl _), show ((64 * b' - q : Nat) : Int) = 64 * (b' : Int) - q by omega] at HR
    have HB := Lib.hid (fun W => blank_any ((regJ d ((f' : Int), (b' : Int))).drop q) W (by rw [List.length_drop, hrl]; omega))
    have HL := Lib.hid (fun W => Rlength_any (f' : Int) (b' : Int) W (by omega) (by omega))
    have ew : IntKind.i64.wrap (64 * (b' : Int) - (q : Int)) = 64 * (b' : Int) - (q : Int) := by rw [IntKind.wrap_i64]; omega
    obtain ⟨R, hR⟩ : ∃ R, R = (regJ d ((f' : Int), (b' : Int))).drop q := ⟨_, rfl⟩
    rw [← hR] at HR HB ⊢
    clear hR hrl h1 h2 hg
    go_enter Tryz.func63, Tryz.ntmps63
    go_wp2_with fail
    refine (HC.out _ (hD.out.below hbl)).mono ?_
    rintro e w1 ⟨rfl, b1⟩
    have k1' := heap_below k1 b1
    have k2' := heap_below k2 b1
    have hb1 := hbl.trans (b1.mono hbl.size)
    have c0 := cell2_0 k1'
    have c1 := cell2_1 k1'
    have r0 := cell2_0 k2'
    have r1 := cell2_1 k2'
    have B := Lib.hid hb1.drew
    clear k1 k2 hsz hbl b1 k1' k2' hb1
    go_wp2_with fail
    go_region_held3 (fun V => V.cell? ⟨w.heap.size, 0, none⟩ = some (.slice ab d.1.length cb) ∧ V.cell? ⟨w.heap.size, 1, none⟩ = some (.slice ac d.2.length cc) ∧ V.cell? ⟨w.heap.size + 1, 0, none⟩ = some (.int .i64 (f' : Int)) ∧ V.cell? ⟨w.heap.size + 1, 1, none⟩ = some (.int .i64 (b' : Int)))
      (first | exact ⟨c0, c1, r0, r1⟩ | exact ⟨o0, o1, o2, o3⟩ | exact ⟨p0, p1, p2, p3⟩ | exact ⟨s0, s1, s2, s3⟩ | go_keep)
      (first
        | (go_at_call 108; refine (HL.out _).mono ?_; rintro e w5 ⟨rfl, b5⟩
           have o0 := cell_below b5 c0; have o1 := cell_below b5 c1; have o2 := cell_below b5 r0; have o3 := cell_below b5 r1
           have B5 := Lib.hid (B.out.trans (b5.mono B.out.size)))
        | (go_at_call 107; refine (HR.out _ (hD.out.below B5.out)).mono ?_; rintro e w6 ⟨rfl, b6⟩
           have p0 := cell_below b6 o0; have p1 := cell_below b6 o1; have p2 := cell_below b6 o2; have p3 := cell_below b6 o3
           have B6 := Lib.hid (B5.out.trans (b6.mono B5.out.size)))
        | (go_at_call 106; refine (HB.out _).mono ?_; rintro e w7 ⟨rfl, rfl⟩))
    go_wp2
    exact bodyPost_ret (results_tmp2 rfl _ _ _) rfl ⟨rfl, B6.out⟩
end Go.Proofs.YtmfbkelhegdmpaaGreatDoor
