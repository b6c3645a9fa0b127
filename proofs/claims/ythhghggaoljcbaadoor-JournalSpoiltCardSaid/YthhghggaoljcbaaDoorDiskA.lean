/- The walks of inside and Check, and of the reference's within and Check, chapter 11 (disk). -/
import Derived.Test.YthhghggaoljcbaaDoorKitAll
namespace Go.Proofs.YthhghggaoljcbaaDoor
open Go.RowKit Disk11

set_option maxHeartbeats 1000000 in
theorem size_any (d : Dev) (v : Value) (w : World) (h : DiskIs w d v) (hl : d.1.length ≤ 4096) :
    Calls Tryd.prog 89 #[v] w fun e w' => e = .returned (.int .i64 (size d)) ∧ Below w.heap.size w w' := by
  obtain ⟨ab, cb, ac, cc, rfl, hb, hc, _, _⟩ := h.form
  go_enter Tryd.func89, Tryd.ntmps89
  go_wp2
  go_ret
  exact ⟨by unfold Disk11.size; rfl, (Below.refl _ w).alloc (Nat.le_refl _) _⟩

set_option maxHeartbeats 1000000 in
theorem inside_any (d : Dev) (v : Value) (p n : Int) (w : World) (h : DiskIs w d v) (hl : d.1.length ≤ 4096) :
    Calls Tryd.prog 63 #[v, .int .i64 p, .int .i64 n] w fun e w' => e = .returned (.bool (inside (size d) p n)) ∧ Below w.heap.size w w' := by
  obtain ⟨ab, cb, ac, cc, rfl, hb, hc, _, _⟩ := h.form
  have key : ∀ (r : Bool) (W : World), Below w.heap.size w W → (r = true ↔ 0 ≤ p ∧ 0 ≤ n ∧ p ≤ 64 * (d.1.length : Int) ∧ n ≤ 64 * (d.1.length : Int) - p) → Ending.returned (.bool r) = .returned (.bool (inside (size d) p n)) ∧ Below w.heap.size w W := by
    intro r W hW hr
    refine ⟨?_, hW⟩
    congr 2
    rw [Bool.eq_iff_iff, inside_iff, hr]
    unfold Disk11.size
    rw [Int.natCast_mul]
    rfl
  have hK := Lib.hid key
  clear key
  go_enter Tryd.func63, Tryd.ntmps63
  go_wp2
  all_goals (go_ret; exact hK.out _ _ (by first | exact Go.Joins.below_alloc1 _ _ | exact Go.Joins.below_alloc2 _ _ _ | exact Go.Joins.below_alloc3 _ _ _ _) (by simp; try omega))

theorem find_at {α : Type} {p : α → Bool} {l : List α} {k : Nat} (h : k < l.length) (hb : p l[k] = true) (hn : ∀ j (hj : j < l.length), j < k → p l[j] = false) : l.findIdx? p = some k := by
  rw [List.findIdx?_eq_some_iff_getElem]
  exact ⟨h, hb, fun j hj => by rw [hn j (by omega) hj]; simp⟩
theorem find_none {α : Type} {p : α → Bool} {l : List α} (hn : ∀ j (hj : j < l.length), p l[j] = false) : l.findIdx? p = none := by
  rw [List.findIdx?_eq_none_iff]
  intro x hx
  obtain ⟨j, hj, rfl⟩ := List.getElem_of_mem hx
  exact hn j hj

set_option maxHeartbeats 4000000 in
set_option maxRecDepth 100000 in
theorem Check_any (d : Dev) (v : Value) (w : World) (h : DiskIs w d v) :
    Calls Tryd.prog 57 #[v] w fun e w' => e = .returned (.tuple #[.int .i64 (chk d).1, .int .i64 (chk d).2]) ∧ Below w.heap.size w w' := by
  obtain ⟨r, hr⟩ : ∃ r, r = chk d := ⟨_, rfl⟩
  rw [← hr]
  unfold chk at hr
  have HI := fun p n W h hl => Lib.hid (inside_any d v p n W h hl)
  have hD := Lib.hid h
  obtain ⟨ab, cb, ac, cc, rfl, hb, hc, hbc, hcc⟩ := h.form
  clear h
  have hw0 := Go.Joins.below_alloc1 w (.cells #[.slice ab d.1.length cb, .slice ac d.2.length cc] 25)
  have hcell : (w.alloc (.cells #[.slice ab d.1.length cb, .slice ac d.2.length cc] 25)).heap[w.heap.size]? = some (.cells #[.slice ab d.1.length cb, .slice ac d.2.length cc] 25 (0, 0)) := World.alloc_heap_new w _
  by_cases h1 : d.1.length < 1
  · have h1' : decide ((d.1.length : Int) < 1) = true := by simp; omega
    rw [if_pos (.inl h1)] at hr
    subst hr
    clear h1
    go_enter Tryd.func57, Tryd.ntmps57
    go_wp2
    go_ret2
    exact ⟨rfl, hw0⟩
  · have h1' : decide ((d.1.length : Int) < 1) = false := by simp; omega
    by_cases h2 : 4096 < d.1.length
    · have h2' : decide ((4096 : Int) < d.1.length) = true := by simp; omega
      rw [if_pos (.inr h2)] at hr
      subst hr
      clear h1 h2
      go_enter Tryd.func57, Tryd.ntmps57
      go_wp2
      go_ret2
      exact ⟨rfl, hw0⟩
    · have h2' : decide ((4096 : Int) < d.1.length) = false := by simp; omega
      rw [if_neg (by omega)] at hr
      have hHr := Lib.hid hr
      have h2l : d.1.length ≤ 4096 := by omega
      clear h1 h2 hr
      go_enter Tryd.func57, Tryd.ntmps57
      go_wp2
      generalize (w.alloc (.cells #[.slice ab d.1.length cb, .slice ac d.2.length cc] 25)) = W0 at *
      have hcs := hcell
      go_loopw [21] (fun i wr => ∃ k : Nat, i = .int .i64 k ∧ k ≤ d.1.length ∧ Hid (∀ j (hj : j < d.1.length), j < k → badBlock d.1[j] = false) ∧ wr = W0) (fun i _ => d.1.length - (intOf i).toNat)
      case atStart => exact ⟨0, rfl, Nat.zero_le _, Lib.hid (fun j _ h => absurd h (Nat.not_lt_zero _)), rfl⟩
      case round =>
        obtain ⟨k, rfl, hk, hnb, hwr⟩ := hrel
        subst wr
        by_cases hlt : k < d.1.length
        · have hlt' : decide ((k : Int) < d.1.length) = true := by simp; omega
          obtain ⟨a, rfl, hcell2⟩ := hbc k hlt
          obtain ⟨b, hbk⟩ : ∃ b, b = d.1[k] := ⟨_, rfl⟩
          have hcw := cell_below hw0 hcell2
          rw [← hbk] at hcw
          by_cases hbad : b.length = 64
          · have hbad' : ((b.length : Int) != 64) = false := by rw [hbad]; rfl
            have hnext : ∀ j (hj : j < d.1.length), j < k + 1 → badBlock d.1[j] = false := by
              intro j hj hjk
              rcases Nat.lt_or_ge j k with h | h
              · exact hnb.out j hj h
              · obtain rfl : j = k := by omega
                unfold badBlock; rw [← hbk, hbad]; rfl
            have hHn := Lib.hid hnext
            clear hnext hbad hbk hbc hcc
            go_wp2
            exact ⟨⟨k + 1, rfl, hlt, hHn, by first | trivial | rfl⟩, by simp [intOf]; omega⟩
          · have hbad' : ((b.length : Int) != 64) = true := by simp; omega
            have hres : r = (3, k) := by
              rw [hHr.out, find_at hlt (by unfold badBlock; rw [← hbk]; simpa using hbad) (fun j hj hjk => hnb.out j hj hjk)]
            clear hbad hbk hbc hcc
            go_wp2
            go_ret2
            exact ⟨by rw [hres]; rfl, hw0⟩
        · obtain rfl : k = d.1.length := by omega
          have hlt' : decide ((d.1.length : Int) < d.1.length) = false := by simp
          have hnone : d.1.findIdx? badBlock = none := find_none (fun j hj => hnb.out j hj hj)
          have hr2 := hHr.out
          rw [hnone] at hr2
          dsimp only at hr2
          clear hnone hHr
          have hd1 := cell2_1 hcell
          by_cases h3 : 1000 < d.2.length
          · have h3' : decide ((1000 : Int) < d.2.length) = true := by simp; omega
            rw [if_pos h3] at hr2
            subst hr2
            clear h3 hbc hcc
            go_wp2
            go_ret2
            exact ⟨rfl, hw0⟩
          · have h3' : decide ((1000 : Int) < d.2.length) = false := by simp; omega
            rw [if_neg h3] at hr2
            have hHr := Lib.hid hr2
            have h3l : d.2.length ≤ 1000 := by omega
            clear h3 hr2 hbc
            go_wp2
            go_loopw [38] (fun i wr => ∃ k : Nat, i = .int .i64 k ∧ k ≤ d.2.length ∧ Hid (∀ j (hj : j < d.2.length), j < k → badWrite (size d) d.2[j] = false) ∧ Below W0.heap.size W0 wr) (fun i _ => d.2.length - (intOf i).toNat)
            case atStart => exact ⟨0, rfl, Nat.zero_le _, Lib.hid (fun j _ h => absurd h (Nat.not_lt_zero _)), Below.refl _ _⟩
            case round =>
              obtain ⟨k, rfl, hk, hnw, hbl⟩ := hrel
              have hwk := hw0.trans (hbl.mono hw0.size)
              by_cases hkt : k < d.2.length
              · have hkt' : decide ((k : Int) < d.2.length) = true := by simp; omega
                obtain ⟨a, rfl, q0, q1⟩ := hcc k hkt
                have hcl := heap_below hcell hbl
                have e0 := cell2_0 hcl
                have e1 := cell2_1 hcl
                obtain ⟨x, hx⟩ : ∃ x, x = d.2[k] := ⟨_, rfl⟩
                rw [← hx] at q0 q1
                have q0' := cell_below hwk q0
                have q1' := cell_below hwk q1
                clear hcc q0 q1
                obtain ⟨p, y⟩ := x
                dsimp only at q0' q1'
                have q1' := cell_next q1'
                have hfresh := World.alloc_heap_new wr (.cells #[.int .i64 p, .string ⟨y.toArray⟩] 73)
                have halloc := Go.Joins.below_alloc1 wr (.cells #[.int .i64 p, .string ⟨y.toArray⟩] 73)
                have hcl2 := heap_below hcl halloc
                have e0' := cell2_0 hcl2
                have e1' := cell2_1 hcl2
                have n0 := cell2_0 hfresh
                have n1 := cell2_1 hfresh
                have hbad : badWrite (size d) (p, y) = true → r = (2, k) := by
                  intro hb
                  rw [hHr.out, find_at hkt (by rw [← hx]; exact hb) (fun j hj hjk => hnw.out j hj hjk)]
                have hgood : badWrite (size d) (p, y) = false → ∀ j (hj : j < d.2.length), j < k + 1 → badWrite (size d) d.2[j] = false := by
                  intro hb j hj hjk
                  rcases Nat.lt_or_ge j k with h | h
                  · exact hnw.out j hj h
                  · obtain rfl : j = k := by omega
                    rw [← hx]; exact hb
                have hwk2 := hwk.trans (halloc.mono hwk.size)
                by_cases hy : y = []
                · subst hy
                  have hr := hbad rfl
                  clear hbad hgood hx
                  go_wp2
                  go_ret2
                  exact ⟨by rw [hr]; rfl, hwk2⟩
                · have hy' : y.isEmpty = false := by cases y <;> simp_all
                  have HIn := HI p y.length _ (hD.out.below hwk2) h2l
                  unfold badWrite at hbad hgood
                  dsimp only at hbad hgood
                  rw [hy', Bool.false_or] at hbad hgood
                  generalize inside (size d) p y.length = b at *
                  have hHb := Lib.hid hbad
                  have hHg := Lib.hid hgood
                  clear hx hy hbad hgood
                  go_wp2_with fail
                  refine HIn.out.mono ?_
                  rintro e w3 ⟨rfl, hb3⟩
                  have hwk3 := hwk2.trans (hb3.mono hwk2.size)
                  have hbl3 := hbl.trans ((halloc.trans (hb3.mono halloc.size)).mono hbl.size)
                  cases b with
                  | true =>
                    go_wp2
                    exact ⟨⟨k + 1, rfl, hkt, Lib.hid (hHg.out rfl), hbl3⟩, by simp [intOf]; omega⟩
                  | false =>
                    have hr := hHb.out rfl
                    go_wp2
                    go_ret2
                    exact ⟨by rw [hr]; rfl, hwk3⟩
              · obtain rfl : k = d.2.length := by omega
                have hkt' : decide ((d.2.length : Int) < d.2.length) = false := by simp
                have hnone : d.2.findIdx? (badWrite (size d)) = none := find_none (fun j hj => hnw.out j hj hj)
                have hr2 := hHr.out
                rw [hnone] at hr2
                subst hr2
                clear hnone hHr hcc
                go_wp2
                go_ret2
                exact ⟨rfl, hwk⟩
end Go.Proofs.YthhghggaoljcbaaDoor
