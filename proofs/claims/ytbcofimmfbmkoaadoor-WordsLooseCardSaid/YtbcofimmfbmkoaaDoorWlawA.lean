/- The walks of the law's own functions of chapter 3: same. -/
import Derived.Test.YtbcofimmfbmkoaaDoorTextB
import Derived.Deep.QuietTactic
import Derived.BigQuiet
import Derived.Deep.RegionHeld3
import Derived.BigRegion
import Derived.RegionTactic
namespace Go.Proofs.YtbcofimmfbmkoaaDoor
open Go.RowKit Go.Shelf Words3

/-- Two lists of rows agree, with their offsets or without. -/
def Agree (off : Bool) (a b : List Rw) : Prop := a.map ktR = b.map ktR ∧ (off = true → a = b)
theorem Agree.refl (off : Bool) (a : List Rw) : Agree off a a := ⟨rfl, fun _ => rfl⟩
theorem Agree.length {off : Bool} {a b : List Rw} (h : Agree off a b) : a.length = b.length := by
  have := congrArg List.length h.1
  rwa [List.length_map, List.length_map] at this
theorem Agree.row {off : Bool} {a b : List Rw} (h : Agree off a b) (i : Nat) (ha : i < a.length) (hb : i < b.length) : (a[i].words.map kt = b[i].words.map kt) ∧ a[i].words.length = b[i].words.length ∧ (off = true → a[i].at_ = b[i].at_ ∧ a[i].words = b[i].words) := by
  have h1 : (a.map ktR)[i]'(by rw [List.length_map]; exact ha) = (b.map ktR)[i]'(by rw [List.length_map]; exact hb) := by simp only [h.1]
  rw [List.getElem_map, List.getElem_map] at h1
  unfold ktR at h1
  refine ⟨h1, by have := congrArg List.length h1; simpa using this, fun ho => ?_⟩
  have := h.2 ho
  subst this
  exact ⟨rfl, rfl⟩
theorem kt_word {a b : List Wd} (h : a.map kt = b.map kt) (k : Nat) (ha : k < a.length) (hb : k < b.length) : a[k].key = b[k].key ∧ a[k].text = b[k].text := by
  have h1 : (a.map kt)[k]'(by rw [List.length_map]; exact ha) = (b.map kt)[k]'(by rw [List.length_map]; exact hb) := by simp only [h]
  rw [List.getElem_map, List.getElem_map] at h1
  exact ⟨congrArg Prod.fst h1, congrArg Prod.snd h1⟩

theorem words_at {a b : List Wd} (h : a = b) (k : Nat) (ha : k < a.length) (hb : k < b.length) : ((a[k].at_ : Int) != (b[k].at_ : Int)) = false := by
  subst h; simp

set_option maxHeartbeats 10000000 in
set_option maxRecDepth 100000 in
theorem same_true (w : World) (va vb : Value) (a b : List Rw) (off : Bool) (ha : RowsAt w va a) (hb : RowsAt w vb b) (hab : Agree off a b) (hn : a.length ≤ 100000) (hm : ∀ r ∈ a, r.words.length ≤ 100000) :
    Calls Tryd.prog 14 #[va, vb, .bool off] w fun e w' => e = .returned (.bool true) ∧ Below w.heap.size w w' := by
  obtain ⟨ad, c, rfl, hc⟩ := ha.slice
  obtain ⟨bd, d, rfl, hd⟩ := hb.slice
  have hl := hab.length
  have hne : ((a.length : Int) != (b.length : Int)) = false := by rw [hl]; simp
  have HA := Lib.hid ha
  have HB := Lib.hid hb
  have HL := Lib.hid hl
  clear ha hb hl
  go_enter Tryd.func14, Tryd.ntmps14
  go_wp2_with fail
  go_loopw [7] (fun i wr => ∃ k : Nat, i = .int .i64 k ∧ k ≤ a.length ∧ Hid (Below w.heap.size w wr)) (fun i _ => a.length - (intOf i).toNat)
  case atStart => exact ⟨0, rfl, Nat.zero_le _, Lib.hid (Below.refl _ _)⟩
  case round =>
    obtain ⟨i, rfl, hi, hbl⟩ := hrel
    obtain ⟨V, rfl⟩ : ∃ V, V = wr := ⟨wr, rfl⟩
    have d0 : (0 : Int) ≤ (i : Int) := by omega
    rcases Nat.lt_or_ge i a.length with hil | hig
    · have d1 : (i : Int) < a.length := by omega
      have hil2 : i < b.length := by have := HL.out; omega
      have d1b : (i : Int) < b.length := by omega
      have d2 := lt_t (a := (i : Int)) (b := a.length) (by omega)
      obtain ⟨p, u, rfl, x0, x1, hw⟩ := (HA.out.below hbl.out).row (List.getElem?_eq_getElem hil)
      obtain ⟨q, u', rfl, y0, y1, hw'⟩ := (HB.out.below hbl.out).row (List.getElem?_eq_getElem hil2)
      obtain ⟨r1, r2, r3⟩ := hab.row i hil hil2
      have hml := hm a[i] (List.getElem_mem hil)
      obtain ⟨ra, hra⟩ : ∃ r, r = a[i] := ⟨_, rfl⟩
      obtain ⟨rb, hrb⟩ : ∃ r, r = b[i] := ⟨_, rfl⟩
      rw [← hra, ← hrb] at r1 r2 r3
      rw [← hra] at x0 hw hml
      rw [← hrb] at y0 hw'
      clear hra hrb
      obtain ⟨ad2, c2, rfl, _⟩ := Row.slice hw
      obtain ⟨bd2, c3, rfl, _⟩ := Row.slice hw'
      have d3 : ((ra.words.length : Int) != (rb.words.length : Int)) = false := by rw [r2]; simp
      have HW := Lib.hid hw
      have HW' := Lib.hid hw'
      have R1 := Lib.hid r1
      have R2 := Lib.hid r2
      have R3 := Lib.hid r3
      clear hw hw' r1 r2 r3
      have d4 : off = true → ((ra.at_ : Int) != (rb.at_ : Int)) = false := fun h => by rw [(R3.out h).1]; simp
      cases off
      all_goals
        try (have d5 := d4 rfl)
        clear d4
        go_wp2_with fail
        go_quiet (fail)
        have x1 := cell_below (below_drewN _ V nq) x1
        have y1 := cell_below (below_drewN _ V nq) y1
        have HW := Lib.hid (WordsAt.below HW.out (below_drewN _ V nq))
        have HW' := Lib.hid (WordsAt.below HW'.out (below_drewN _ V nq))
        have hb1 := Lib.hid (hbl.out.trans ((below_drewN _ V nq).mono hbl.out.size))
        clear x0 y0
        generalize V.drewN nq = V1 at *
        go_wp2_with fail
        go_loopw [8] (fun b wr => ∃ k : Nat, b = .int .i64 k ∧ k ≤ ra.words.length ∧ Hid (Below V1.heap.size V1 wr)) (fun b _ => ra.words.length - (intOf b).toNat)
        case atStart => exact ⟨0, rfl, Nat.zero_le _, Lib.hid (Below.refl _ _)⟩
        case round =>
          obtain ⟨k, rfl, hk, hI⟩ := hrel
          obtain ⟨V2, rfl⟩ : ∃ V2, V2 = wr := ⟨wr, rfl⟩
          have x1 := cell_below hI.out x1
          have y1 := cell_below hI.out y1
          have e0 : (0 : Int) ≤ (k : Int) := by omega
          rcases Nat.lt_or_ge k ra.words.length with hkk | hkg
          · have d6 : (k : Int) < ra.words.length := by omega
            have hkk2 : k < rb.words.length := by rw [← R2.out]; exact hkk
            have d6b : (k : Int) < rb.words.length := by omega
            obtain ⟨a2, rfl, z0, z1, z2⟩ := (WordsAt.below HW.out hI.out).word (List.getElem?_eq_getElem hkk)
            obtain ⟨b2, rfl, t0, t1, t2⟩ := (WordsAt.below HW'.out hI.out).word (List.getElem?_eq_getElem hkk2)
            obtain ⟨f1, f2⟩ := kt_word R1.out k hkk hkk2
            rw [← f1] at t1
            rw [← f2] at t2
            try (have d9 := words_at (R3.out trivial).2 k hkk hkk2)
            clear f1 f2
            generalize ra.words[k] = x at *
            generalize rb.words[k].at_ = yat at *
            have m1 := World.new_ne _ _ x1
            have m2 := World.new_ne _ _ y1
            have m3 := World.new_ne _ _ z0
            have m4 := World.new_ne _ _ z1
            have m5 := World.new_ne _ _ z2
            have m6 := World.new_ne _ _ t0
            have m7 := World.new_ne _ _ t1
            have m8 := World.new_ne _ _ t2
            go_wp2_with fail
            go_region_held3 (fun W => W.cell? { block := (p.add (i * 2)).block, off := (p.add (i * 2)).off + 1 } = some (.slice (some a2) ra.words.length c2) ∧ W.cell? { block := (q.add (i * 2)).block, off := (q.add (i * 2)).off + 1 } = some (.slice (some b2) rb.words.length c3) ∧
                W.cell? (a2.add (k * 3)) = some (.int .i64 (x.at_ : Int)) ∧ W.cell? { block := (a2.add (k * 3)).block, off := (a2.add (k * 3)).off + 1 } = some (.string ⟨x.key.toArray⟩) ∧ W.cell? { block := (a2.add (k * 3)).block, off := (a2.add (k * 3)).off + 2 } = some (.string ⟨x.text.toArray⟩) ∧
                W.cell? (b2.add (k * 3)) = some (.int .i64 (yat : Int)) ∧ W.cell? { block := (b2.add (k * 3)).block, off := (b2.add (k * 3)).off + 1 } = some (.string ⟨x.key.toArray⟩) ∧ W.cell? { block := (b2.add (k * 3)).block, off := (b2.add (k * 3)).off + 2 } = some (.string ⟨x.text.toArray⟩))
              (first | exact ⟨x1, y1, z0, z1, z2, t0, t1, t2⟩ | go_keep) (fail)
            all_goals
              go_wp2_with fail
            all_goals exact ⟨⟨k + 1, by go_num, hkk, Lib.hid (Below.drew (hI.out.trans ((Go.Joins.below_alloc2 V2 _ _).mono hI.out.size)))⟩, by simp only [intOf]; omega⟩
          · obtain rfl : k = ra.words.length := by omega
            have d6 := lt_f (a := (ra.words.length : Int)) (b := ra.words.length) (by omega)
            go_wp2_with fail
            exact ⟨⟨i + 1, by go_num, hil, Lib.hid (hb1.out.trans (hI.out.mono hb1.out.size))⟩, by simp only [intOf]; omega⟩
    · obtain rfl : i = a.length := by omega
      have d2 := lt_f (a := (a.length : Int)) (b := a.length) (by omega)
      go_wp2_with fail
      go_ret
      exact ⟨rfl, hbl.out⟩
end Go.Proofs.YtbcofimmfbmkoaaDoor
