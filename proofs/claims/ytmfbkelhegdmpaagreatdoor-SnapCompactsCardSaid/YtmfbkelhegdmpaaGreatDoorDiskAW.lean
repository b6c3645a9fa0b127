/- Texts of small laws, one behind the other. -/
import Derived.Test.YtmfbkelhegdmpaaGreatDoorKitAll
import Derived.Deep.QuietTactic
import Derived.BigQuiet
/- The walks of inside and Check, and of the reference's within and Check, chapter 11 (disk). -/
namespace Go.Proofs.YtmfbkelhegdmpaaGreatDoor
open Go.RowKit Disk11

set_option maxHeartbeats 1000000 in
theorem size_any (d : Dev) (v : Value) (w : World) (h : DiskIs w d v) (hl : d.1.length ≤ 4096) :
    Calls Tryz.prog 115 #[v] w fun e w' => e = .returned (.int .i64 (size d)) ∧ Below w.heap.size w w' := by
  obtain ⟨ab, cb, ac, cc, rfl, hb, hc, _, _⟩ := h.form
  go_enter Tryz.func115, Tryz.ntmps115
  go_wp2
  go_ret
  exact ⟨by unfold Disk11.size; rfl, (Below.refl _ w).alloc (Nat.le_refl _) _⟩

set_option maxHeartbeats 1000000 in
theorem inside_any (d : Dev) (v : Value) (p n : Int) (w : World) (h : DiskIs w d v) (hl : d.1.length ≤ 4096) :
    Calls Tryz.prog 80 #[v, .int .i64 p, .int .i64 n] w fun e w' => e = .returned (.bool (inside (size d) p n)) ∧ Below w.heap.size w w' := by
  obtain ⟨ab, cb, ac, cc, rfl, hb, hc, _, _⟩ := h.form
  have key : ∀ (r : Bool) (W : World), Below w.heap.size w W → (r = true ↔ 0 ≤ p ∧ 0 ≤ n ∧ p ≤ 64 * (d.1.length : Int) ∧ n ≤ 64 * (d.1.length : Int) - p) → Ending.returned (.bool r) = .returned (.bool (inside (size d) p n)) ∧ Below w.heap.size w W := by
    intro r W hW hr
    refine ⟨?_, hW⟩
    congr 2
    rw [Bool.eq_iff_iff, inside_iff, hr]
    unfold Disk11.size
    rw [Int.natCast_mul]
    rfl
  have hK := Lib.hid key
  clear key
  go_enter Tryz.func80, Tryz.ntmps80
  go_wp2
  all_goals (go_ret; exact hK.out _ _ (by first | exact Go.Joins.below_alloc1 _ _ | exact Go.Joins.below_alloc2 _ _ _ | exact Go.Joins.below_alloc3 _ _ _ _) (by simp; try omega))

theorem find_at {α : Type} {p : α → Bool} {l : List α} {k : Nat} (h : k < l.length) (hb : p l[k] = true) (hn : ∀ j (hj : j < l.length), j < k → p l[j] = false) : l.findIdx? p = some k := by
  rw [List.findIdx?_eq_some_iff_getElem]
  exact ⟨h, hb, fun j hj => by rw [hn j (by omega) hj]; simp⟩
theorem find_none {α : Type} {p : α → Bool} {l : List α} (hn : ∀ j (hj : j < l.length), p l[j] = false) : l.findIdx? p = none := by
  rw [List.findIdx?_eq_none_iff]
  intro x hx
  obtain ⟨j, hj, rfl⟩ := List.getElem_of_mem hx
  exact hn j hj

set_option maxHeartbeats 4000000 in
set_option maxRecDepth 100000 in
theorem Check_any (d : Dev) (v : Value) (w : World) (h : DiskIs w d v) :
    Calls Tryz.prog 74 #[v] w fun e w' => e = .returned (.tuple #[.int .i64 (chk d).1, .int .i64 (chk d).2]) ∧ Below w.heap.size w w' := by
  obtain ⟨r, hr⟩ : ∃ r, r = chk d := ⟨_, rfl⟩
  rw [← hr]
  unfold chk at hr
  have HI := fun p n W h hl => Lib.hid (inside_any d v p n W h hl)
  have hD := Lib.hid h
  obtain ⟨ab, cb, ac, cc, rfl, hb, hc, hbc, hcc⟩ := h.form
  clear h
  have hw0 := Go.Joins.below_alloc1 w (.cells #[.slice ab d.1.length cb, .slice ac d.2.length cc] 29)
  have hcell : (w.alloc (.cells #[.slice ab d.1.length cb, .slice ac d.2.length cc] 29)).heap[w.heap.size]? = some (.cells #[.slice ab d.1.length cb, .slice ac d.2.length cc] 29 (0, 0)) := World.alloc_heap_new w _
  by_cases h1 : d.1.length < 1
  · have h1' : decide ((d.1.length : Int) < 1) = true := by simp; omega
    rw [if_pos (.inl h1)] at hr
    subst hr
    clear h1
    go_enter Tryz.func74, Tryz.ntmps74
    go_wp2
    go_ret2
    exact ⟨rfl, hw0⟩
  · have h1' : decide ((d.1.length : Int) < 1) = false := by simp; omega
    by_cases h2 : 4096 < d.1.length
    · have h2' : decide ((4096 : Int) < d.1.length) = true := by simp; omega
      rw [if_pos (.inr h2)] at hr
      subst hr
      clear h1 h2
      go_enter Tryz.func74, Tryz.ntmps74
      go_wp2
      go_ret2
      exact ⟨rfl, hw0⟩
    · have h2' : decide ((4096 : Int) < d.1.length) = false := by simp; omega
      rw [if_neg (by omega)] at hr
      have hHr := Lib.hid hr
      have h2l : d.1.length ≤ 4096 := by omega
      clear h1 h2 hr
      go_enter Tryz.func74, Tryz.ntmps74
      go_wp2
      generalize (w.alloc (.cells #[.slice ab d.1.length cb, .slice ac d.2.length cc] 29)) = W0 at *
      have hcs := hcell
      go_loopw [21] (fun i wr => ∃ k : Nat, i = .int .i64 k ∧ k ≤ d.1.length ∧ Hid (∀ j (hj : j < d.1.length), j < k → badBlock d.1[j] = false) ∧ wr = W0) (fun i _ => d.1.length - (intOf i).toNat)
      case atStart => exact ⟨0, rfl, Nat.zero_le _, Lib.hid (fun j _ h => absurd h (Nat.not_lt_zero _)), rfl⟩
      case round =>
        obtain ⟨k, rfl, hk, hnb, hwr⟩ := hrel
        subst wr
        by_cases hlt : k < d.1.length
        · have hlt' : decide ((k : Int) < d.1.length) = true := by simp; omega
          obtain ⟨a, rfl, hcell2⟩ := hbc k hlt
          obtain ⟨b, hbk⟩ : ∃ b, b = d.1[k] := ⟨_, rfl⟩
          have hcw := cell_below hw0 hcell2
          rw [← hbk] at hcw
          by_cases hbad : b.length = 64
          · have hbad' : ((b.length : Int) != 64) = false := by rw [hbad]; rfl
            have hnext : ∀ j (hj : j < d.1.length), j < k + 1 → badBlock d.1[j] = false := by
              intro j hj hjk
              rcases Nat.lt_or_ge j k with h | h
              · exact hnb.out j hj h
              · obtain rfl : j = k := by omega
                unfold badBlock; rw [← hbk, hbad]; rfl
            have hHn := Lib.hid hnext
            clear hnext hbad hbk hbc hcc
            go_wp2
            exact ⟨⟨k + 1, rfl, hlt, hHn, by first | trivial | rfl⟩, by simp [intOf]; omega⟩
          · have hbad' : ((b.length : Int) != 64) = true := by simp; omega
            have hres : r = (3, k) := by
              rw [hHr.out, find_at hlt (by unfold badBlock; rw [← hbk]; simpa using hbad) (fun j hj hjk => hnb.out j hj hjk)]
            clear hbad hbk hbc hcc
            go_wp2
            go_ret2
            exact ⟨by rw [hres]; rfl, hw0⟩
        · obtain rfl : k = d.1.length := by omega
          have hlt' : decide ((d.1.length : Int) < d.1.length) = false := by simp
          have hnone : d.1.findIdx? badBlock = none := find_none (fun j hj => hnb.out j hj hj)
          have hr2 := hHr.out
          rw [hnone] at hr2
          dsimp only at hr2
          clear hnone hHr
          have hd1 := cell2_1 hcell
          by_cases h3 : 1000 < d.2.length
          · have h3' : decide ((1000 : Int) < d.2.length) = true := by simp; omega
            rw [if_pos h3] at hr2
            subst hr2
            clear h3 hbc hcc
            go_wp2
            go_ret2
            exact ⟨rfl, hw0⟩
          · have h3' : decide ((1000 : Int) < d.2.length) = false := by simp; omega
            rw [if_neg h3] at hr2
            have hHr := Lib.hid hr2
            have h3l : d.2.length ≤ 1000 := by omega
            clear h3 hr2 hbc
            go_wp2
            go_loopw [38] (fun i wr => ∃ k : Nat, i = .int .i64 k ∧ k ≤ d.2.length ∧ Hid (∀ j (hj : j < d.2.length), j < k → badWrite (size d) d.2[j] = false) ∧ Below W0.heap.size W0 wr) (fun i _ => d.2.length - (intOf i).toNat)
            case atStart => exact ⟨0, rfl, Nat.zero_le _, Lib.hid (fun j _ h => absurd h (Nat.not_lt_zero _)), Below.refl _ _⟩
            case round =>
              obtain ⟨k, rfl, hk, hnw, hbl⟩ := hrel
              have hwk := hw0.trans (hbl.mono hw0.size)
              by_cases hkt : k < d.2.length
              · have hkt' : decide ((k : Int) < d.2.length) = true := by simp; omega
                obtain ⟨a, rfl, q0, q1⟩ := hcc k hkt
                have hcl := heap_below hcell hbl
                have e0 := cell2_0 hcl
                have e1 := cell2_1 hcl
                obtain ⟨x, hx⟩ : ∃ x, x = d.2[k] := ⟨_, rfl⟩
                rw [← hx] at q0 q1
                have q0' := cell_below hwk q0
                have q1' := cell_below hwk q1
                clear hcc q0 q1
                obtain ⟨p, y⟩ := x
                dsimp only at q0' q1'
                have q1' := cell_next q1'
                have hfresh := World.alloc_heap_new wr (.cells #[.int .i64 p, .string ⟨y.toArray⟩] 49)
                have halloc := Go.Joins.below_alloc1 wr (.cells #[.int .i64 p, .string ⟨y.toArray⟩] 49)
                have hcl2 := heap_below hcl halloc
                have e0' := cell2_0 hcl2
                have e1' := cell2_1 hcl2
                have n0 := cell2_0 hfresh
                have n1 := cell2_1 hfresh
                have hbad : badWrite (size d) (p, y) = true → r = (2, k) := by
                  intro hb
                  rw [hHr.out, find_at hkt (by rw [← hx]; exact hb) (fun j hj hjk => hnw.out j hj hjk)]
                have hgood : badWrite (size d) (p, y) = false → ∀ j (hj : j < d.2.length), j < k + 1 → badWrite (size d) d.2[j] = false := by
                  intro hb j hj hjk
                  rcases Nat.lt_or_ge j k with h | h
                  · exact hnw.out j hj h
                  · obtain rfl : j = k := by omega
                    rw [← hx]; exact hb
                have hwk2 := hwk.trans (halloc.mono hwk.size)
                by_cases hy : y = []
                · subst hy
                  have hr := hbad rfl
                  clear hbad hgood hx
                  go_wp2
                  go_ret2
                  exact ⟨by rw [hr]; rfl, hwk2⟩
                · have hy' : y.isEmpty = false := by cases y <;> simp_all
                  have HIn := HI p y.length _ (hD.out.below hwk2) h2l
                  unfold badWrite at hbad hgood
                  dsimp only at hbad hgood
                  rw [hy', Bool.false_or] at hbad hgood
                  generalize inside (size d) p y.length = b at *
                  have hHb := Lib.hid hbad
                  have hHg := Lib.hid hgood
                  clear hx hy hbad hgood
                  go_wp2_with fail
                  refine HIn.out.mono ?_
                  rintro e w3 ⟨rfl, hb3⟩
                  have hwk3 := hwk2.trans (hb3.mono hwk2.size)
                  have hbl3 := hbl.trans ((halloc.trans (hb3.mono halloc.size)).mono hbl.size)
                  cases b with
                  | true =>
                    go_wp2
                    exact ⟨⟨k + 1, rfl, hkt, Lib.hid (hHg.out rfl), hbl3⟩, by simp [intOf]; omega⟩
                  | false =>
                    have hr := hHb.out rfl
                    go_wp2
                    go_ret2
                    exact ⟨by rw [hr]; rfl, hwk3⟩
              · obtain rfl : k = d.2.length := by omega
                have hkt' : decide ((d.2.length : Int) < d.2.length) = false := by simp
                have hnone : d.2.findIdx? (badWrite (size d)) = none := find_none (fun j hj => hnw.out j hj hj)
                have hr2 := hHr.out
                rw [hnone] at hr2
                subst hr2
                clear hnone hHr hcc
                go_wp2
                go_ret2
                exact ⟨rfl, hwk⟩
end Go.Proofs.YtmfbkelhegdmpaaGreatDoor
/- The walks of the reference's within and Check, chapter 11 (disk). -/
namespace Go.Proofs.YtmfbkelhegdmpaaGreatDoor
open Go.RowKit Disk11

set_option maxHeartbeats 1000000 in
theorem within_any (sz p n : Int) (w : World) (h : sz < 4611686018427387904) (h0 : 0 ≤ sz := by omega) :
    Calls Tryz.prog 83 #[.int .i64 sz, .int .i64 p, .int .i64 n] w fun e w' => e = .returned (.bool (inside sz p n)) ∧ w' = w := by
  go_enter Tryz.func83, Tryz.ntmps83
  go_wp2
  all_goals (go_ret; refine ⟨?_, rfl⟩; unfold inside; simp [*]; try omega)

set_option maxHeartbeats 4000000 in
set_option maxRecDepth 100000 in
theorem RCheck_any (d : Dev) (v : Value) (w : World) (h : DiskIs w d v) :
    Calls Tryz.prog 57 #[v] w fun e w' => e = .returned (.tuple #[.int .i64 (chk d).1, .int .i64 (chk d).2]) ∧ Below w.heap.size w w' := by
  obtain ⟨r, hr⟩ : ∃ r, r = chk d := ⟨_, rfl⟩
  rw [← hr]
  unfold chk at hr
  have HI := fun p n W hl => Lib.hid (within_any (size d) p n W hl)
  have hD := Lib.hid h
  obtain ⟨ab, cb, ac, cc, rfl, hb, hc, hbc, hcc⟩ := h.form
  clear h
  have hw0 := Go.Joins.below_alloc1 w (.cells #[.slice ab d.1.length cb, .slice ac d.2.length cc] 29)
  have hcell : (w.alloc (.cells #[.slice ab d.1.length cb, .slice ac d.2.length cc] 29)).heap[w.heap.size]? = some (.cells #[.slice ab d.1.length cb, .slice ac d.2.length cc] 29 (0, 0)) := World.alloc_heap_new w _
  by_cases h1 : d.1.length < 1
  · have h1' : decide ((d.1.length : Int) < 1) = true := by simp; omega
    rw [if_pos (.inl h1)] at hr
    subst hr
    clear h1
    go_enter Tryz.func57, Tryz.ntmps57
    go_wp2
    go_ret2
    exact ⟨rfl, hw0⟩
  · have h1' : decide ((d.1.length : Int) < 1) = false := by simp; omega
    by_cases h2 : 4096 < d.1.length
    · have h2' : decide ((4096 : Int) < d.1.length) = true := by simp; omega
      rw [if_pos (.inr h2)] at hr
      subst hr
      clear h1 h2
      go_enter Tryz.func57, Tryz.ntmps57
      go_wp2
      go_ret2
      exact ⟨rfl, hw0⟩
    · have h2' : decide ((4096 : Int) < d.1.length) = false := by simp; omega
      rw [if_neg (by omega)] at hr
      have hHr := Lib.hid hr
      have h2l : d.1.length ≤ 4096 := by omega
      clear h1 h2 hr
      go_enter Tryz.func57, Tryz.ntmps57
      go_wp2
      generalize (w.alloc (.cells #[.slice ab d.1.length cb, .slice ac d.2.length cc] 29)) = W0 at *
      have c0 := cell2_0 hcell
      have c1 := cell2_1 hcell
      go_loopw [4] (fun i wr => ∃ k : Nat, i = .int .i64 k ∧ k ≤ d.1.length ∧ Hid (∀ j (hj : j < d.1.length), j < k → badBlock d.1[j] = false) ∧ wr = W0) (fun i _ => d.1.length - (intOf i).toNat)
      case atStart => exact ⟨0, rfl, Nat.zero_le _, Lib.hid (fun j _ h => absurd h (Nat.not_lt_zero _)), rfl⟩
      case round =>
        obtain ⟨k, rfl, hk, hnb, hwr⟩ := hrel
        subst wr
        by_cases hlt : k < d.1.length
        · have hlt' : decide ((k : Int) < d.1.length) = true := by simp; omega
          obtain ⟨a, rfl, hcell2⟩ := hbc k hlt
          obtain ⟨b, hbk⟩ : ∃ b, b = d.1[k] := ⟨_, rfl⟩
          have hcw := cell_below hw0 hcell2
          rw [← hbk] at hcw
          by_cases hbad : b.length = 64
          · have hbad' : ((b.length : Int) != 64) = false := by rw [hbad]; rfl
            have hnext : ∀ j (hj : j < d.1.length), j < k + 1 → badBlock d.1[j] = false := by
              intro j hj hjk
              rcases Nat.lt_or_ge j k with h | h
              · exact hnb.out j hj h
              · obtain rfl : j = k := by omega
                unfold badBlock; rw [← hbk, hbad]; rfl
            have hHn := Lib.hid hnext
            clear hnext hbad hbk hbc hcc
            go_wp2
            exact ⟨⟨k + 1, rfl, hlt, hHn, by first | trivial | rfl⟩, by simp [intOf]; omega⟩
          · have hbad' : ((b.length : Int) != 64) = true := by simp; omega
            have hres : r = (3, k) := by
              rw [hHr.out, find_at hlt (by unfold badBlock; rw [← hbk]; simpa using hbad) (fun j hj hjk => hnb.out j hj hjk)]
            clear hbad hbk hbc hcc
            go_wp2
            go_ret2
            exact ⟨by rw [hres]; rfl, hw0⟩
        · obtain rfl : k = d.1.length := by omega
          have hlt' : decide ((d.1.length : Int) < d.1.length) = false := by simp
          have hnone : d.1.findIdx? badBlock = none := find_none (fun j hj => hnb.out j hj hj)
          have hr2 := hHr.out
          rw [hnone] at hr2
          dsimp only at hr2
          clear hnone hHr
          by_cases h3 : 1000 < d.2.length
          · have h3' : decide ((1000 : Int) < d.2.length) = true := by simp; omega
            rw [if_pos h3] at hr2
            subst hr2
            clear h3 hbc hcc
            go_wp2
            go_ret2
            exact ⟨rfl, hw0⟩
          · have h3' : decide ((1000 : Int) < d.2.length) = false := by simp; omega
            rw [if_neg h3] at hr2
            have hHr := Lib.hid hr2
            have h3l : d.2.length ≤ 1000 := by omega
            clear h3 hr2 hbc
            go_wp2
            go_loopw [5] (fun i wr => ∃ k : Nat, i = .int .i64 k ∧ k ≤ d.2.length ∧ Hid (∀ j (hj : j < d.2.length), j < k → badWrite (size d) d.2[j] = false) ∧ Below W0.heap.size W0 wr) (fun i _ => d.2.length - (intOf i).toNat)
            case atStart => exact ⟨0, rfl, Nat.zero_le _, Lib.hid (fun j _ h => absurd h (Nat.not_lt_zero _)), Below.refl _ _⟩
            case round =>
              obtain ⟨k, rfl, hk, hnw, hbl⟩ := hrel
              have hwk := hw0.trans (hbl.mono hw0.size)
              have hcl := heap_below hcell hbl
              have e0 := cell2_0 hcl
              have e1 := cell2_1 hcl
              by_cases hkt : k < d.2.length
              · have hkt' : decide ((k : Int) < d.2.length) = true := by simp; omega
                obtain ⟨a, rfl, q0, q1⟩ := hcc k hkt
                obtain ⟨x, hx⟩ : ∃ x, x = d.2[k] := ⟨_, rfl⟩
                rw [← hx] at q0 q1
                have q0' := cell_below hwk q0
                have q1' := cell_below hwk q1
                clear hcc q0 q1
                obtain ⟨p, y⟩ := x
                dsimp only at q0' q1'
                have q1' := cell_next q1'
                have hbad : badWrite (size d) (p, y) = true → r = (2, k) := by
                  intro hb
                  rw [hHr.out, find_at hkt (by rw [← hx]; exact hb) (fun j hj hjk => hnw.out j hj hjk)]
                have hgood : badWrite (size d) (p, y) = false → ∀ j (hj : j < d.2.length), j < k + 1 → badWrite (size d) d.2[j] = false := by
                  intro hb j hj hjk
                  rcases Nat.lt_or_ge j k with h | h
                  · exact hnw.out j hj h
                  · obtain rfl : j = k := by omega
                    rw [← hx]; exact hb
                by_cases hy : y = []
                · subst hy
                  have hr := hbad rfl
                  clear hbad hgood hx
                  go_wp2
                  go_quiet (fail)
                  go_wp2
                  go_ret2
                  exact ⟨by rw [hr]; rfl, Go.Joins.below_draws _ _ _ |> hwk.trans⟩
                · have hy' : y.isEmpty = false := by cases y <;> simp_all
                  have hyl : ((y.length : Int) == 0) = false := by cases y <;> simp_all; omega
                  have HIn := fun W => HI p y.length W (by unfold Disk11.size; omega)
                  unfold badWrite at hbad hgood
                  dsimp only at hbad hgood
                  rw [hy', Bool.false_or] at hbad hgood
                  have hsz : ((size d : Nat) : Int) = 64 * (d.1.length : Int) := by unfold Disk11.size; omega
                  generalize inside (size d) p y.length = b at *
                  rw [hsz] at HIn
                  have hHb := Lib.hid hbad
                  have hHg := Lib.hid hgood
                  clear hx hy hbad hgood hsz
                  go_wp2
                  go_quiet (first | (go_at_call 83; exact Calls.quiet_of_same (HIn _).out))
                  have hwkn := fun n => hwk.trans (Go.Joins.below_draws w.heap.size wr n)
                  have hbln := fun n => hbl.trans (Go.Joins.below_draws W0.heap.size wr n)
                  have hHk := Lib.hid hwkn
                  have hHl := Lib.hid hbln
                  clear hwkn hbln
                  cases b with
                  | true =>
                    go_wp2
                    exact ⟨⟨k + 1, rfl, hkt, Lib.hid (hHg.out rfl), hHl.out _⟩, by simp [intOf]; omega⟩
                  | false =>
                    have hr := hHb.out rfl
                    go_wp2
                    go_ret2
                    exact ⟨by rw [hr]; rfl, hHk.out _⟩
              · obtain rfl : k = d.2.length := by omega
                have hkt' : decide ((d.2.length : Int) < d.2.length) = false := by simp
                have hnone : d.2.findIdx? (badWrite (size d)) = none := find_none (fun j hj => hnw.out j hj hj)
                have hr2 := hHr.out
                rw [hnone] at hr2
                subst hr2
                clear hnone hHr hcc
                go_wp2
                go_ret2
                exact ⟨rfl, hwk⟩
end Go.Proofs.YtmfbkelhegdmpaaGreatDoor
/- The walks of Clone, clone and copied, chapter 11 (disk). -/
namespace Go.Proofs.YtmfbkelhegdmpaaGreatDoor
open Go.RowKit Disk11

theorem infoWr : (Tryz.prog.info? 49).map (fun i => (i.zero, i.size, i.bytes)) = some (some (.agg #[.int .i64 0, .string ⟨#[]⟩]), 2, 24) := by kernel_rfl
theorem strVals_one (l : List (List UInt8)) : ∀ u ∈ strVals l, u.oneCell' = true := by
  intro u hu
  unfold strVals at hu
  rw [List.mem_map] at hu
  obtain ⟨b, _, rfl⟩ := hu
  rfl
theorem wrVals_one (l : List Wr) : ∀ u ∈ wrVals l, u.oneCell' = true := by
  intro u hu
  unfold wrVals at hu
  rw [List.mem_flatMap] at hu
  obtain ⟨b, _, hb⟩ := hu
  simp at hb
  rcases hb with rfl | rfl <;> rfl

set_option maxHeartbeats 1000000 in
set_option maxRecDepth 100000 in
theorem cloneS_any (l : List (List UInt8)) (v : Value) (w : World) (h : Row w 1 v l.length (strVals l)) (hl : l.length ≤ 4096) :
    Calls Tryz.prog 113 #[v] w fun e w' => ∃ v', e = .returned v' ∧ w'.ownsRow w.heap.size 9 1 v' l.length (strVals l) ∧ Below w.heap.size w w' := by
  obtain ⟨ad, c, rfl, hc⟩ := h.slice
  have q22 : ∀ (w : World) (a : Option Addr) (n c n' c' : Nat), (binOp .eql 26 (.slice a n c) (.slice none n' c')).run Tryz.prog w = .ok (.bool a.isNone) w := fun w a n c n' c' => Lib.run_eql_slice_nil w _ _ a n c n' c' Tryz.underlying26
  cases ad with
  | none =>
    have h0 : l = [] := by
      cases l with
      | nil => rfl
      | cons x l =>
        obtain ⟨a, ha, _⟩ := h.cell (strVals_at (x :: l) 0 (by simp))
        cases ha
    subst h0
    go_enter Tryz.func113, Tryz.ntmps113
    go_wp2
    go_ret
    exact ⟨_, rfl, World.ownsRow_nil _ _ _ _, Below.refl _ _⟩
  | some a =>
    obtain ⟨i0, hi, hz0, hz1, hz2⟩ := info_parts infoStr
    have hq : ∀ j u, (strVals l)[j]? = some u → (w.alloc (.cells #[] 9)).cell? (a.add j) = some u := by
      intro j u hu
      obtain ⟨a', ha, hcu⟩ := h.cell hu
      cases ha
      exact cell_below ((Below.refl _ w).alloc (Nat.le_refl _) _) hcu
    have hQ := Lib.hid hq
    clear hq h
    go_enter Tryz.func113, Tryz.ntmps113
    go_wp2_with (at_builtin; refine wpList_append_own _ rfl _ _ 26 rfl w.heap.size 9 i0 (.string ⟨#[]⟩) 1 16 Tryz.underlying26 hi hz0 hz1 hz2 rfl (by decide) _ _ _ rfl (World.ownsRow_made w #[] 0 (Nat.le_refl _) (Nat.zero_le _) (by simp)) a l.length c (strVals l) rfl (by rw [strVals_length, Nat.mul_one]) hQ.out (strVals_one l) (by unfold maxLen; omega) (by omega) (by simp) ?_; intro v' w1 hown hgrow _)
    go_ret
    refine ⟨_, rfl, by rw [Nat.zero_add, List.nil_append] at hown; exact hown, ?_⟩
    exact ((Below.refl _ w).alloc (Nat.le_refl _) _).grown hgrow (by simp) (fun j e => by cases e; exact Nat.le_refl _)

set_option maxHeartbeats 1000000 in
set_option maxRecDepth 100000 in
theorem cloneW_any (l : List Wr) (v : Value) (w : World) (h : Row w 2 v l.length (wrVals l)) (hl : l.length ≤ 4096) :
    Calls Tryz.prog 116 #[v] w fun e w' => ∃ v', e = .returned v' ∧ w'.ownsRow w.heap.size 49 2 v' l.length (wrVals l) ∧ Below w.heap.size w w' := by
  obtain ⟨ad, c, rfl, hc⟩ := h.slice
  have q22 : ∀ (w : World) (a : Option Addr) (n c n' c' : Nat), (binOp .eql 27 (.slice a n c) (.slice none n' c')).run Tryz.prog w = .ok (.bool a.isNone) w := fun w a n c n' c' => Lib.run_eql_slice_nil w _ _ a n c n' c' Tryz.underlying27
  cases ad with
  | none =>
    have h0 : l = [] := by
      cases l with
      | nil => rfl
      | cons x l =>
        obtain ⟨a, ha, _⟩ := h.cell (wrVals_at (x :: l) 0 (by simp)).1
        cases ha
    subst h0
    go_enter Tryz.func116, Tryz.ntmps116
    go_wp2
    go_ret
    exact ⟨_, rfl, World.ownsRow_nil _ _ _ _, Below.refl _ _⟩
  | some a =>
    obtain ⟨i0, hi, hz0, hz1, hz2⟩ := info_parts infoWr
    have hq : ∀ j u, (wrVals l)[j]? = some u → (w.alloc (.cells #[] 49)).cell? (a.add j) = some u := by
      intro j u hu
      obtain ⟨a', ha, hcu⟩ := h.cell hu
      cases ha
      exact cell_below ((Below.refl _ w).alloc (Nat.le_refl _) _) hcu
    have hQ := Lib.hid hq
    clear hq h
    go_enter Tryz.func116, Tryz.ntmps116
    go_wp2_with (at_builtin; refine wpList_append_own _ rfl _ _ 27 rfl w.heap.size 49 i0 (.agg #[.int .i64 0, .string ⟨#[]⟩]) 2 24 Tryz.underlying27 hi hz0 hz1 hz2 rfl (by decide) _ _ _ rfl (World.ownsRow_made w #[] 0 (Nat.le_refl _) (Nat.zero_le _) (by simp)) a l.length c (wrVals l) rfl (by rw [wrVals_length]) hQ.out (wrVals_one l) (by unfold maxLen; omega) (by omega) (by simp) ?_; intro v' w1 hown hgrow _)
    go_ret
    refine ⟨_, rfl, by rw [Nat.zero_add, List.nil_append] at hown; exact hown, ?_⟩
    exact ((Below.refl _ w).alloc (Nat.le_refl _) _).grown hgrow (by simp) (fun j e => by cases e; exact Nat.le_refl _)

theorem results_cell1 {fn : Func} {P : Program} {p : Tmp} {ty : TypeId} (h : fn.results = #[.cell p ty]) (tmps : Array Value) (w : World) (g : Nat) (t : TypeId) (cs : Array Value) (fr : Nat × Nat) (d : TypeDesc)
    (hp : tmps.getD p undef = .pointer (some ⟨g, 0, none⟩)) (hg : w.heap[g]? = some (.cells cs t fr))
    (hu : P.underlying ty = some d) (hd : (match d with | .struct _ | .array _ _ => true | _ => false) = true) (hi : (P.info? ty).map (·.size) = some cs.size) :
    (results fn tmps).run P w = .ok (.agg cs) w := by
  have hp' : tmps[p]?.getD undef = .pointer (some ⟨g, 0, none⟩) := by simpa using hp
  simp [results, h, hp', asAddr, run_loadVar_row w g t ty cs fr d hg hu hd hi]

set_option maxHeartbeats 4000000 in
set_option maxRecDepth 100000 in
theorem clone_any (d : Dev) (v : Value) (w : World) (h : DiskIs w d v) (hl : d.1.length ≤ 4096) (hl2 : d.2.length ≤ 4096) :
    Calls Tryz.prog 81 #[v] w fun e w' => ∃ vb vc, e = .returned (.agg #[vb, vc]) ∧ w'.ownsRow w.heap.size 9 1 vb d.1.length (strVals d.1) ∧ w'.ownsRow w.heap.size 49 2 vc d.2.length (wrVals d.2) ∧ Below w.heap.size w w' := by
  obtain ⟨vb, vc, rfl, hb, hc⟩ := h
  obtain ⟨ab, cb, rfl, _⟩ := hb.slice
  obtain ⟨ac, cc, rfl, _⟩ := hc.slice
  have HS := fun W h => Lib.hid (cloneS_any d.1 (.slice ab d.1.length cb) W h hl)
  have HW := fun W h => Lib.hid (cloneW_any d.2 (.slice ac d.2.length cc) W h hl2)
  go_enter Tryz.func81, Tryz.ntmps81
  go_wp2
  obtain ⟨k1, k2, hsz, hbl⟩ := alloc2 w (.cells #[.slice ab d.1.length cb, .slice ac d.2.length cc] 29) (.cells #[.slice none 0 0, .slice none 0 0] 29)
  have hb0 := hb.below hbl
  have hc0 := hc.below hbl
  generalize ((w.alloc (.cells #[.slice ab d.1.length cb, .slice ac d.2.length cc] 29)).alloc (.cells #[.slice none 0 0, .slice none 0 0] 29)) = W0 at *
  have c0 := cell2_0 k1
  have c1 := cell2_1 k1
  have r0 := cell2_0 k2
  have r1 := cell2_1 k2
  have f0 := frozen2 k2 0
  have f1 := frozen2 k2 1
  go_region_with (first
    | (go_at_call 113; refine (HS _ hb0.drew).out.mono ?_; rintro e w1 ⟨v1, rfl, o1, b1⟩; obtain ⟨ad1, cp1, rfl⟩ := own_slice o1; have k1' := heap_below (show W0.drew.heap[w.heap.size]? = _ from k1) b1; have k2' := heap_below (show W0.drew.heap[w.heap.size + 1]? = _ from k2) b1; have c0' := cell2_0 k1'; have c1' := cell2_1 k1')
    | (go_at_call 116; refine (HW _ (hc0.drew.below b1)).out.mono ?_; rintro e w2 ⟨v2, rfl, o2, b2⟩; obtain ⟨ad2, cp2, rfl⟩ := own_slice o2; have k2'' := heap_below k2' b2; have r0' := cell2_0 k2''; have r1' := cell2_1 k2''; have f0' := frozen2 k2'' 0; have f1' := frozen2 k2'' 1))
  all_goals
    have e1 := Lib.heap_setCell_same (i := 0) k2'' (.slice ad1 d.1.length cp1)
    have e2 := Lib.heap_setCell_same (i := 1) e1 (.slice ad2 d.2.length cp2)
    have b0 : Below W0.heap.size W0 w2 := (Below.refl _ W0).drew.trans (b1.trans (b2.mono b1.size))
    have q1 := own_set (b := w.heap.size + 1) (j := 1) (u := .slice ad2 d.2.length cp2) (own_set (b := w.heap.size + 1) (j := 0) (u := .slice ad1 d.1.length cp1) (own_lower (own_below o1 b2) (B' := w.heap.size + 2) (by rw [← hsz]; exact Nat.le_refl _)) (by omega)) (by omega)
    have q2 := own_set (b := w.heap.size + 1) (j := 1) (u := .slice ad2 d.2.length cp2) (own_set (b := w.heap.size + 1) (j := 0) (u := .slice ad1 d.1.length cp1) (own_lower o2 (B' := w.heap.size + 2) (by rw [← hsz]; exact b1.size)) (by omega)) (by omega)
    go_wp2
    refine bodyPost_ret (results_cell1 rfl _ _ (w.heap.size + 1) _ _ _ _ rfl e2 Tryz.underlying29 rfl (by kernel_rfl)) rfl ?_
    exact ⟨_, _, rfl, own_lower q1 (by omega), own_lower q2 (by omega), below_set (below_set (hbl.trans (b0.mono (by omega))) (by omega)) (by omega)⟩
end Go.Proofs.YtmfbkelhegdmpaaGreatDoor
/- The walk of Write, chapter 11 (disk). -/
namespace Go.Proofs.YtmfbkelhegdmpaaGreatDoor
open Go.RowKit Disk11

theorem wrVals_snoc (l : List Wr) (p : Int) (x : List UInt8) : wrVals l ++ [.int .i64 p, .string ⟨x.toArray⟩] = wrVals (l ++ [(p, x)]) := by
  rw [wrVals_append]; rfl

theorem cell_two_new (w : World) (x y : Value) (t : TypeId) : ∀ j u, [x, y][j]? = some u → (w.alloc (.cells #[x, y] t)).cell? ((⟨w.heap.size, 0, none⟩ : Addr).add j) = some u := by
  intro j u hj
  match j, hj with
  | 0, hj => simp at hj; subst hj; simp [Addr.add]
  | 1, hj => simp at hj; subst hj; simp [Addr.add]
theorem results_cell_tmp {fn : Func} {P : Program} {p u : Tmp} {ty : TypeId} (h : fn.results = #[.cell p ty, .tmp u]) (tmps : Array Value) (w : World) (g : Nat) (t : TypeId) (cs : Array Value) (fr : Nat × Nat) (d : TypeDesc)
    (hp : tmps.getD p undef = .pointer (some ⟨g, 0, none⟩)) (hg : w.heap[g]? = some (.cells cs t fr))
    (hu : P.underlying ty = some d) (hd : (match d with | .struct _ | .array _ _ => true | _ => false) = true) (hi : (P.info? ty).map (·.size) = some cs.size) :
    (results fn tmps).run P w = .ok (.tuple #[.agg cs, tmps.getD u undef]) w := by
  have hp' : tmps[p]?.getD undef = .pointer (some ⟨g, 0, none⟩) := by simpa using hp
  simp [results, h, hp', asAddr, Result.andThen, run_loadVar_row w g t ty cs fr d hg hu hd hi]
theorem set_two {w : World} {b t : Nat} {x y x' y' : Value} (h : w.heap[b]? = some (.cells #[x, y] t (0, 0))) : ((w.setCell ⟨b, 0, none⟩ x').setCell ⟨b, 1, none⟩ y').heap[b]? = some (.cells #[x', y'] t (0, 0)) :=
  Lib.heap_setCell_same (i := 1) (Lib.heap_setCell_same (i := 0) h x') y'
theorem own_two {w w' : World} {base base' e e' size size' n n' : Nat} {v v' : Value} {xs xs' : List Value} (h : w.ownsRow base e size v n xs) (h' : w.ownsRow base' e' size' v' n' xs') (hg : w.grownBy w' v'.ownBlock) (hne : e ≠ e') : w'.ownsRow base e size v n xs :=
  World.ownsRow.kept h hg (by
    rcases h.2 with ⟨rfl, _⟩ | ⟨g, cap, cur, rfl, _, hh, _⟩
    · exact Or.inl rfl
    · rcases h'.2 with ⟨rfl, _⟩ | ⟨g', cap', cur', rfl, _, hh', _⟩
      · exact Or.inr (by simp [Value.ownBlock])
      · refine Or.inr (fun e1 => hne ?_)
        simp only [Value.ownBlock, Option.some.injEq] at e1
        subst e1
        rw [hh'] at hh; cases hh; rfl)
theorem two_other {w : World} {b b' j j' : Nat} {u u' : Value} {o : Obj} (hne : b' ≠ b) (h : w.heap[b']? = some o) : ((w.setCell ⟨b, j, none⟩ u).setCell ⟨b, j', none⟩ u').heap[b']? = some o := by
  have h1 := (grown_cell w b j u).block b' (Array.getElem?_eq_some_iff.1 h).1 (fun e => hne (by cases e; rfl))
  have h2 := (grown_cell (w.setCell ⟨b, j, none⟩ u) b j' u').block b' (by rw [← h1] at h; exact (Array.getElem?_eq_some_iff.1 h).1) (fun e => hne (by cases e; rfl))
  rw [h2, h1]; exact h
theorem one_other {w : World} {b b' j : Nat} {u : Value} {o : Obj} (hne : b' ≠ b) (h : w.heap[b']? = some o) : (w.setCell ⟨b, j, none⟩ u).heap[b']? = some o := by
  have h1 := (grown_cell w b j u).block b' (Array.getElem?_eq_some_iff.1 h).1 (fun e => hne (by cases e; rfl))
  rw [h1]; exact h

set_option maxHeartbeats 4000000 in
set_option maxRecDepth 100000 in
theorem Write_any (d : Dev) (v : Value) (p : Int) (x : List UInt8) (w : World) (h : DiskIs w d v) :
    Calls Tryz.prog 39 #[v, .int .i64 p, .string ⟨x.toArray⟩] w fun e w' => ∃ v', e = .returned (.tuple #[v', .int .i64 (writeD d p x).2]) ∧ DiskIs w' (writeD d p x).1 v' ∧ Below w.heap.size w w' := by
  have HC := Lib.hid (fun W h => Check_any d v W h)
  have HI := Lib.hid (fun W h hl => inside_any d v p x.length W h hl)
  have HL := Lib.hid (fun W h hl hl2 => clone_any d v W h hl hl2)
  have hD := Lib.hid h
  have hgd : (chk d).1 = 0 → d.1.length ≤ 4096 ∧ d.2.length ≤ 1000 := fun h => by
    have := (chk_good d).1 (chk_ok h)
    exact ⟨this.2.1, this.2.2.2.1⟩
  obtain ⟨r, hr⟩ : ∃ r, r = writeD d p x := ⟨_, rfl⟩
  rw [← hr]
  unfold writeD at hr
  obtain ⟨c, hc⟩ : ∃ c, c = chk d := ⟨_, rfl⟩
  rw [← hc] at hr hgd HC
  clear hc
  obtain ⟨c1, c2⟩ := c
  dsimp only at hr hgd HC
  obtain ⟨ab, cb, ac, cc, rfl, _, _, hbc, hcc⟩ := h.form
  clear h
  by_cases h0 : c1 = 0
  · subst h0
    obtain ⟨hl, hl2⟩ := hgd rfl
    clear hgd
    rw [if_neg (by simp)] at hr
    clear hbc hcc
    have bad : ∀ w1 W1 (e : Nat), Below w.heap.size w w1 → w1.heap[w.heap.size + 1]? = some (.cells #[.slice none 0 0, .slice none 0 0] 29) → W1 = (w1.setCell ⟨w.heap.size + 1, 0, none⟩ (.slice none 0 0)).setCell ⟨w.heap.size + 1, 1, none⟩ (.slice none 0 0) → r = (none0, e) → ∃ cs, W1.heap[w.heap.size + 1]? = some (.cells cs 29 (0, 0)) ∧ cs.size = 2 ∧ r.2 = e ∧ DiskIs W1 r.1 (.agg cs) ∧ Below w.heap.size w W1 := by
      rintro w1 W1 e hb hk rfl rfl
      exact ⟨_, set_two hk, rfl, rfl, DiskIs.none _, below_set (below_set hb (by omega)) (by omega)⟩
    have hBad := Lib.hid bad
    clear bad
    go_enter Tryz.func39, Tryz.ntmps39
    go_wp2_with fail
    obtain ⟨k1, k2, hsz, hbl⟩ := alloc2 w (.cells #[.slice ab d.1.length cb, .slice ac d.2.length cc] 29) (.cells #[.slice none 0 0, .slice none 0 0] 29)
    refine (HC.out _ (hD.out.below hbl)).mono ?_
    rintro e w1 ⟨rfl, b1⟩
    have k1' := heap_below k1 b1
    have k2' := heap_below k2 b1
    have hb1 := hbl.trans (b1.mono hbl.size)
    have c0 := cell2_0 k1'
    have c1 := cell2_1 k1'
    have r0 := cell2_0 k2'
    have r1 := cell2_1 k2'
    have f0 := frozen2 k2' 0
    have f1 := frozen2 k2' 1
    by_cases hx : x = []
    · subst hx
      have hr2 : r = (none0, 2) := by rw [hr]; rfl
      clear hr
      go_wp2
      obtain ⟨cs, q1, q2, q3, q4, q5⟩ := hBad.out _ _ _ hb1 k2' rfl hr2
      exact bodyPost_ret (results_cell_tmp rfl _ _ (w.heap.size + 1) _ _ _ _ rfl q1 Tryz.underlying29 rfl (by rw [q2]; kernel_rfl)) rfl ⟨_, by rw [q3]; rfl, q4, q5⟩
    · have hx' : x.isEmpty = false := by cases x <;> simp_all
      rw [hx', Bool.false_or] at hr
      go_wp2_with fail
      refine (HI.out _ (hD.out.below hb1) hl).mono ?_
      rintro e w2 ⟨rfl, b2⟩
      have hb2 := hb1.trans (b2.mono hb1.size)
      have k1'' := heap_below k1' b2
      have k2'' := heap_below k2' b2
      clear c0 c1 r0 r1 f0 f1
      have c0 := cell2_0 k1''
      have c1 := cell2_1 k1''
      have r0 := cell2_0 k2''
      have r1 := cell2_1 k2''
      have f0 := frozen2 k2'' 0
      have f1 := frozen2 k2'' 1
      obtain ⟨i, hi⟩ : ∃ i, i = inside (size d) p x.length := ⟨_, rfl⟩
      rw [← hi] at hr ⊢
      clear hi hx
      cases i with
      | false =>
        have hr2 : r = (none0, 2) := by rw [hr]; rfl
        clear hr
        go_wp2
        obtain ⟨cs, q1, q2, q3, q4, q5⟩ := hBad.out _ _ _ hb2 k2'' rfl hr2
        exact bodyPost_ret (results_cell_tmp rfl _ _ (w.heap.size + 1) _ _ _ _ rfl q1 Tryz.underlying29 rfl (by rw [q2]; kernel_rfl)) rfl ⟨_, by rw [q3]; rfl, q4, q5⟩
      | true =>
        rw [Bool.not_true, if_neg (by simp)] at hr
        by_cases hfull : 1000 ≤ d.2.length
        · have hf' : decide ((1000 : Int) ≤ d.2.length) = true := by simp; omega
          rw [if_pos hfull] at hr
          have hr2 := hr
          clear hr hfull
          go_wp2
          obtain ⟨cs, q1, q2, q3, q4, q5⟩ := hBad.out _ _ _ hb2 k2'' rfl hr2
          exact bodyPost_ret (results_cell_tmp rfl _ _ (w.heap.size + 1) _ _ _ _ rfl q1 Tryz.underlying29 rfl (by rw [q2]; kernel_rfl)) rfl ⟨_, by rw [q3]; rfl, q4, q5⟩
        · have hf' : decide ((1000 : Int) ≤ d.2.length) = false := by simp; omega
          rw [if_neg hfull] at hr
          have hr2 := Lib.hid hr
          clear hr hfull
          go_wp2_with fail
          refine (HL.out _ (hD.out.below hb2) hl (by omega)).mono ?_
          rintro e w3 ⟨vb, vc, rfl, ob, oc, b3⟩
          obtain ⟨adb, cpb, rfl⟩ := own_slice ob
          obtain ⟨adc, cpc, rfl⟩ := own_slice oc
          have hb3 := hb2.trans (b3.mono hb2.size)
          have j1 := heap_below k1'' b3
          have j2 := heap_below k2'' b3
          clear c0 c1 r0 r1 f0 f1
          have c0 := cell2_0 j1
          have c1 := cell2_1 j1
          have g0 := frozen2 j1 0
          have g1 := frozen2 j1 1
          have hw2 : w.heap.size + 2 ≤ w2.heap.size := by
            have := b1.size; have := b2.size; omega
          have oc4 := own_set (b := w.heap.size) (j := 1) (u := .slice adc d.2.length cpc) (own_set (b := w.heap.size) (j := 0) (u := .slice adb d.1.length cpb) oc (by omega)) (by omega)
          have ob4 := own_set (b := w.heap.size) (j := 1) (u := .slice adc d.2.length cpc) (own_set (b := w.heap.size) (j := 0) (u := .slice adb d.1.length cpb) ob (by omega)) (by omega)
          have j1' := set_two (x' := .slice adb d.1.length cpb) (y' := .slice adc d.2.length cpc) j1
          have j2' := two_other (b := w.heap.size) (j := 0) (j' := 1) (u := .slice adb d.1.length cpb) (u' := .slice adc d.2.length cpc) (by omega) j2
          have hb4 := below_set (b := w.heap.size) (j := 1) (u := .slice adc d.2.length cpc) (below_set (b := w.heap.size) (j := 0) (u := .slice adb d.1.length cpb) hb3 (Nat.le_refl _)) (Nat.le_refl _)
          obtain ⟨i0, hi0, hz0, hz1, hz2⟩ := info_parts infoWr
          have hs4 : w2.heap.size ≤ ((w3.setCell ⟨w.heap.size, 0, none⟩ (.slice adb d.1.length cpb)).setCell ⟨w.heap.size, 1, none⟩ (.slice adc d.2.length cpc)).heap.size := Nat.le_trans b3.size (Nat.le_trans (grown_cell w3 w.heap.size 0 _).size (grown_cell _ w.heap.size 1 _).size)
          go_wp2_with (at_builtin; refine wpList_append_own _ rfl _ _ 27 rfl w2.heap.size 49 i0 (.agg #[.int .i64 0, .string ⟨#[]⟩]) 2 24 Tryz.underlying27 hi0 hz0 hz1 hz2 rfl (by decide) _ _ _ rfl (World.ownsRow.alloc oc4 _) ⟨((w3.setCell ⟨w.heap.size, 0, none⟩ (.slice adb d.1.length cpb)).setCell ⟨w.heap.size, 1, none⟩ (.slice adc d.2.length cpc)).heap.size, 0, none⟩ 1 1 [.int .i64 p, .string ⟨x.toArray⟩] (by simp [go_sem]) rfl (cell_two_new _ _ _ _) (by intro u hu; simp at hu; rcases hu with rfl | rfl <;> rfl) (by unfold maxLen; omega) (by omega) (Nat.le_trans hs4 (by simp)) ?_; intro v5 w5 o5 g5 _
                       have b5 := ((Below.refl w2.heap.size ((w3.setCell ⟨w.heap.size, 0, none⟩ (.slice adb d.1.length cpb)).setCell ⟨w.heap.size, 1, none⟩ (.slice adc d.2.length cpc))).alloc hs4 (.cells #[.int .i64 p, .string ⟨x.toArray⟩] 49)).grown g5 (Nat.le_trans hs4 (by simp)) (fun k hk => (World.ownsRow.lt oc4 k hk).1)
                       have ob5 := own_two (World.ownsRow.alloc ob4 (.cells #[.int .i64 p, .string ⟨x.toArray⟩] 49)) (World.ownsRow.alloc oc4 (.cells #[.int .i64 p, .string ⟨x.toArray⟩] 49)) g5 (by decide)
                       obtain ⟨ad5, cp5, rfl⟩ := own_slice o5
                       have l1 := (b5.block _ (by omega)).trans j1'
                       have l2 := (b5.block _ (by omega)).trans j2'
                       have c0' := cell2_0 l1
                       have c1' := cell2_1 l1
                       have g0' := frozen2 l1 0
                       have g1' := frozen2 l1 1
                       have r0' := cell2_0 l2
                       have r1' := cell2_1 l2
                       have f0' := frozen2 l2 0
                       have f1' := frozen2 l2 1)
          have l3 := set_two (x' := .slice adb d.1.length cpb) (y' := .slice ad5 (d.2.length + 1) cp5) (one_other (b := w.heap.size) (j := 1) (u := .slice ad5 (d.2.length + 1) cp5) (by omega) l2)
          have t1 := own_set (b := w.heap.size + 1) (j := 1) (u := .slice ad5 (d.2.length + 1) cp5) (own_set (b := w.heap.size + 1) (j := 0) (u := .slice adb d.1.length cpb) (own_set (b := w.heap.size) (j := 1) (u := .slice ad5 (d.2.length + 1) cp5) ob5 (by omega)) (by omega)) (by omega)
          have t2 := own_set (b := w.heap.size + 1) (j := 1) (u := .slice ad5 (d.2.length + 1) cp5) (own_set (b := w.heap.size + 1) (j := 0) (u := .slice adb d.1.length cpb) (own_set (b := w.heap.size) (j := 1) (u := .slice ad5 (d.2.length + 1) cp5) o5 (by omega)) (by omega)) (by omega)
          rw [wrVals_snoc] at t2
          have bf := below_set (b := w.heap.size + 1) (j := 1) (u := .slice ad5 (d.2.length + 1) cp5) (below_set (b := w.heap.size + 1) (j := 0) (u := .slice adb d.1.length cpb) (below_set (b := w.heap.size) (j := 1) (u := .slice ad5 (d.2.length + 1) cp5) (hb4.trans (b5.mono (by omega))) (Nat.le_refl _)) (by omega)) (by omega)
          have hr3 := hr2.out
          subst hr3
          refine bodyPost_ret (results_cell_tmp rfl _ _ (w.heap.size + 1) _ _ _ _ rfl l3 Tryz.underlying29 rfl (by kernel_rfl)) rfl ⟨_, rfl, ⟨_, _, rfl, Row.of_own t1, ?_⟩, bf⟩
          show Row _ 2 _ (d.2 ++ [(p, x)]).length _
          rw [List.length_append]
          exact Row.of_own t2
  · have h0' : ((c1 : Int) == 0) = false := by simp; omega
    rw [if_pos h0] at hr
    subst hr
    clear h0 hgd hbc hcc
    go_enter Tryz.func39, Tryz.ntmps39
    go_wp2_with fail
    obtain ⟨k1, k2, hsz, hbl⟩ := alloc2 w (.cells #[.slice ab d.1.length cb, .slice ac d.2.length cc] 29) (.cells #[.slice none 0 0, .slice none 0 0] 29)
    refine (HC.out _ (hD.out.below hbl)).mono ?_
    rintro e w1 ⟨rfl, b1⟩
    have k2' := heap_below k2 b1
    have r0 := cell2_0 k2'
    have r1 := cell2_1 k2'
    have f0 := frozen2 k2' 0
    have f1 := frozen2 k2' 1
    go_wp2
    refine bodyPost_ret (results_cell_tmp rfl _ _ (w.heap.size + 1) _ _ _ _ rfl (set_two k2') Tryz.underlying29 rfl (by kernel_rfl)) rfl ?_
    exact ⟨_, rfl, DiskIs.none _, below_set (below_set (hbl.trans (b1.mono hbl.size)) (by omega)) (by omega)⟩
end Go.Proofs.YtmfbkelhegdmpaaGreatDoor
/- Values of devices beside stores into other blocks; a device result opened with its lengths. -/
namespace Go.Proofs.YtmfbkelhegdmpaaGreatDoor
open Go.RowKit Disk11

theorem as_disk {B : Nat} {w w' : World} {e : Ending} {r : Dev × Nat} {d : Dev} {k nb nc : Nat} (n : Int) (hr : r = (d, k)) (hk : (k : Int) = n) (hb : d.1.length = nb) (hc : d.2.length = nc)
    (h : ∃ v', e = .returned (.tuple #[v', .int .i64 r.2]) ∧ DiskIs w' r.1 v' ∧ Below B w w') :
    ∃ ab cb ac cc, e = .returned (.tuple #[.agg #[.slice ab nb cb, .slice ac nc cc], .int .i64 n]) ∧ DiskIs w' d (.agg #[.slice ab nb cb, .slice ac nc cc]) ∧ Below B w w' := by
  subst hr hb hc hk
  obtain ⟨v', rfl, hd, hb⟩ := h
  obtain ⟨ab, cb, ac, cc, rfl, _⟩ := hd.form
  exact ⟨ab, cb, ac, cc, rfl, hd, hb⟩
theorem as_diskN {B : Nat} {w w' : World} {e : Ending} {r : Dev × Nat}
    (h : ∃ v', e = .returned (.tuple #[v', .int .i64 r.2]) ∧ DiskIs w' r.1 v' ∧ Below B w w') :
    ∃ ab nb cb ac nc cc, e = .returned (.tuple #[.agg #[.slice ab nb cb, .slice ac nc cc], .int .i64 r.2]) ∧ DiskIs w' r.1 (.agg #[.slice ab nb cb, .slice ac nc cc]) ∧ Below B w w' := by
  obtain ⟨v', rfl, hd, hb⟩ := h
  obtain ⟨ab, cb, ac, cc, rfl, _⟩ := hd.form
  exact ⟨ab, _, cb, ac, _, cc, rfl, hd, hb⟩
/-- A cell of another block than this row of two slices. -/
theorem cell_apart {w : World} {b j t : Nat} {u x : Value} {a : Addr} {a1 a2 : Option Addr} {n1 c1 n2 c2 : Nat} (hb : w.heap[b]? = some (.cells #[.slice a1 n1 c1, .slice a2 n2 c2] t (0, 0)))
    (hx : ∀ a n c, x ≠ .slice a n c) (h : w.cell? a = some x) : (w.setCell ⟨b, j, none⟩ u).cell? a = some x := by
  have hne : a.block ≠ b := by
    rintro rfl
    unfold World.cell? at h
    rw [hb] at h
    obtain ⟨g, o, p⟩ := a
    match o with
    | 0 => simp at h; exact hx _ _ _ h.2.symm
    | 1 => simp at h; exact hx _ _ _ h.2.symm
    | o + 2 => simp at h
  have hg := (grown_cell w b j u).block a.block (cell_lt h) (fun e => hne (by cases e; rfl))
  unfold World.cell? at h ⊢
  rw [hg]; exact h
theorem Row.apart {w : World} {size n b j t : Nat} {v u : Value} {xs : List Value} {a1 a2 : Option Addr} {n1 c1 n2 c2 : Nat} (h : Row w size v n xs) (hb : w.heap[b]? = some (.cells #[.slice a1 n1 c1, .slice a2 n2 c2] t (0, 0)))
    (hx : ∀ x ∈ xs, ∀ a n c, x ≠ .slice a n c) : Row (w.setCell ⟨b, j, none⟩ u) size v n xs := by
  obtain ⟨h1, ad, c, h2, h3, h4⟩ := h
  exact ⟨h1, ad, c, h2, h3, fun j x hj => by
    obtain ⟨a, ha, hc⟩ := h4 j x hj
    exact ⟨a, ha, cell_apart hb (hx x (List.mem_of_getElem? hj)) hc⟩⟩
theorem strVals_no (l : List (List UInt8)) : ∀ x ∈ strVals l, ∀ a n c, x ≠ .slice a n c := by
  intro x hx a n c
  unfold strVals at hx
  rw [List.mem_map] at hx
  obtain ⟨b, _, rfl⟩ := hx
  simp
theorem wrVals_no (l : List Wr) : ∀ x ∈ wrVals l, ∀ a n c, x ≠ .slice a n c := by
  intro x hx a n c
  unfold wrVals at hx
  rw [List.mem_flatMap] at hx
  obtain ⟨b, _, hb⟩ := hx
  simp at hb
  rcases hb with rfl | rfl <;> simp
theorem disk_apart {w : World} {d : Dev} {v u : Value} {b j t : Nat} {a1 a2 : Option Addr} {n1 c1 n2 c2 : Nat} (h : DiskIs w d v) (hb : w.heap[b]? = some (.cells #[.slice a1 n1 c1, .slice a2 n2 c2] t (0, 0))) : DiskIs (w.setCell ⟨b, j, none⟩ u) d v := by
  obtain ⟨vb, vc, h1, h2, h3⟩ := h
  exact ⟨vb, vc, h1, h2.apart hb (strVals_no _), h3.apart hb (wrVals_no _)⟩
theorem top_cell {w w' : World} {o : Obj} (hb : Below (w.alloc o).heap.size (w.alloc o) w') : w'.heap[w.heap.size]? = some o := heap_below (World.alloc_heap_new w o) hb

theorem cell_far2 {w : World} {a : Addr} {x u u' : Value} {g j j' : Nat} (h : w.cell? a = some x) (hne : a.block ≠ g) : ((w.setCell ⟨g, j, none⟩ u).setCell ⟨g, j', none⟩ u').cell? a = some x := by
  have hl := cell_lt h
  have e1 := (grown_cell w g j u).block a.block hl (fun e => hne (by cases e; rfl))
  have e2 := (grown_cell (w.setCell ⟨g, j, none⟩ u) g j' u').block a.block (Nat.lt_of_lt_of_le hl (grown_cell w g j u).size) (fun e => hne (by cases e; rfl))
  unfold World.cell? at h ⊢
  rw [e2, e1]; exact h
theorem below_drewN {B : Nat} {a w : World} (h : Below B a w) (n : Nat) : Below B a (w.drewN n) := ⟨h.os, h.tape, h.output, h.size, h.block⟩
end Go.Proofs.YtmfbkelhegdmpaaGreatDoor
