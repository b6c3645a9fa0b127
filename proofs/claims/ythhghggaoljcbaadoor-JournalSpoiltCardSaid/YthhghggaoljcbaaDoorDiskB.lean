/- The walks of the reference's within and Check, chapter 11 (disk). -/
import Derived.Test.YthhghggaoljcbaaDoorDiskA
import Derived.Deep.QuietTactic
import Derived.BigQuiet
namespace Go.Proofs.YthhghggaoljcbaaDoor
open Go.RowKit Disk11

set_option maxHeartbeats 1000000 in
theorem within_any (sz p n : Int) (w : World) (h : sz < 4611686018427387904) (h0 : 0 ≤ sz := by omega) :
    Calls Tryd.prog 77 #[.int .i64 sz, .int .i64 p, .int .i64 n] w fun e w' => e = .returned (.bool (inside sz p n)) ∧ w' = w := by
  go_enter Tryd.func77, Tryd.ntmps77
  go_wp2
  all_goals (go_ret; refine ⟨?_, rfl⟩; unfold inside; simp [*]; try omega)

set_option maxHeartbeats 4000000 in
set_option maxRecDepth 100000 in
theorem RCheck_any (d : Dev) (v : Value) (w : World) (h : DiskIs w d v) :
    Calls Tryd.prog 58 #[v] w fun e w' => e = .returned (.tuple #[.int .i64 (chk d).1, .int .i64 (chk d).2]) ∧ Below w.heap.size w w' := by
  obtain ⟨r, hr⟩ : ∃ r, r = chk d := ⟨_, rfl⟩
  rw [← hr]
  unfold chk at hr
  have HI := fun p n W hl => Lib.hid (within_any (size d) p n W hl)
  have hD := Lib.hid h
  obtain ⟨ab, cb, ac, cc, rfl, hb, hc, hbc, hcc⟩ := h.form
  clear h
  have hw0 := Go.Joins.below_alloc1 w (.cells #[.slice ab d.1.length cb, .slice ac d.2.length cc] 25)
  have hcell : (w.alloc (.cells #[.slice ab d.1.length cb, .slice ac d.2.length cc] 25)).heap[w.heap.size]? = some (.cells #[.slice ab d.1.length cb, .slice ac d.2.length cc] 25 (0, 0)) := World.alloc_heap_new w _
  by_cases h1 : d.1.length < 1
  · have h1' : decide ((d.1.length : Int) < 1) = true := by simp; omega
    rw [if_pos (.inl h1)] at hr
    subst hr
    clear h1
    go_enter Tryd.func58, Tryd.ntmps58
    go_wp2
    go_ret2
    exact ⟨rfl, hw0⟩
  · have h1' : decide ((d.1.length : Int) < 1) = false := by simp; omega
    by_cases h2 : 4096 < d.1.length
    · have h2' : decide ((4096 : Int) < d.1.length) = true := by simp; omega
      rw [if_pos (.inr h2)] at hr
      subst hr
      clear h1 h2
      go_enter Tryd.func58, Tryd.ntmps58
      go_wp2
      go_ret2
      exact ⟨rfl, hw0⟩
    · have h2' : decide ((4096 : Int) < d.1.length) = false := by simp; omega
      rw [if_neg (by omega)] at hr
      have hHr := Lib.hid hr
      have h2l : d.1.length ≤ 4096 := by omega
      clear h1 h2 hr
      go_enter Tryd.func58, Tryd.ntmps58
      go_wp2
      generalize (w.alloc (.cells #[.slice ab d.1.length cb, .slice ac d.2.length cc] 25)) = W0 at *
      have c0 := cell2_0 hcell
      have c1 := cell2_1 hcell
      go_loopw [4] (fun i wr => ∃ k : Nat, i = .int .i64 k ∧ k ≤ d.1.length ∧ Hid (∀ j (hj : j < d.1.length), j < k → badBlock d.1[j] = false) ∧ wr = W0) (fun i _ => d.1.length - (intOf i).toNat)
      case atStart => exact ⟨0, rfl, Nat.zero_le _, Lib.hid (fun j _ h => absurd h (Nat.not_lt_zero _)), rfl⟩
      case round =>
        obtain ⟨k, rfl, hk, hnb, hwr⟩ := hrel
        subst wr
        by_cases hlt : k < d.1.length
        · have hlt' : decide ((k : Int) < d.1.length) = true := by simp; omega
          obtain ⟨a, rfl, hcell2⟩ := hbc k hlt
          obtain ⟨b, hbk⟩ : ∃ b, b = d.1[k] := ⟨_, rfl⟩
          have hcw := cell_below hw0 hcell2
          rw [← hbk] at hcw
          by_cases hbad : b.length = 64
          · have hbad' : ((b.length : Int) != 64) = false := by rw [hbad]; rfl
            have hnext : ∀ j (hj : j < d.1.length), j < k + 1 → badBlock d.1[j] = false := by
              intro j hj hjk
              rcases Nat.lt_or_ge j k with h | h
              · exact hnb.out j hj h
              · obtain rfl : j = k := by omega
                unfold badBlock; rw [← hbk, hbad]; rfl
            have hHn := Lib.hid hnext
            clear hnext hbad hbk hbc hcc
            go_wp2
            exact ⟨⟨k + 1, rfl, hlt, hHn, by first | trivial | rfl⟩, by simp [intOf]; omega⟩
          · have hbad' : ((b.length : Int) != 64) = true := by simp; omega
            have hres : r = (3, k) := by
              rw [hHr.out, find_at hlt (by unfold badBlock; rw [← hbk]; simpa using hbad) (fun j hj hjk => hnb.out j hj hjk)]
            clear hbad hbk hbc hcc
            go_wp2
            go_ret2
            exact ⟨by rw [hres]; rfl, hw0⟩
        · obtain rfl : k = d.1.length := by omega
          have hlt' : decide ((d.1.length : Int) < d.1.length) = false := by simp
          have hnone : d.1.findIdx? badBlock = none := find_none (fun j hj => hnb.out j hj hj)
          have hr2 := hHr.out
          rw [hnone] at hr2
          dsimp only at hr2
          clear hnone hHr
          by_cases h3 : 1000 < d.2.length
          · have h3' : decide ((1000 : Int) < d.2.length) = true := by simp; omega
            rw [if_pos h3] at hr2
            subst hr2
            clear h3 hbc hcc
            go_wp2
            go_ret2
            exact ⟨rfl, hw0⟩
          · have h3' : decide ((1000 : Int) < d.2.length) = false := by simp; omega
            rw [if_neg h3] at hr2
            have hHr := Lib.hid hr2
            have h3l : d.2.length ≤ 1000 := by omega
            clear h3 hr2 hbc
            go_wp2
            go_loopw [5] (fun i wr => ∃ k : Nat, i = .int .i64 k ∧ k ≤ d.2.length ∧ Hid (∀ j (hj : j < d.2.length), j < k → badWrite (size d) d.2[j] = false) ∧ Below W0.heap.size W0 wr) (fun i _ => d.2.length - (intOf i).toNat)
            case atStart => exact ⟨0, rfl, Nat.zero_le _, Lib.hid (fun j _ h => absurd h (Nat.not_lt_zero _)), Below.refl _ _⟩
            case round =>
              obtain ⟨k, rfl, hk, hnw, hbl⟩ := hrel
              have hwk := hw0.trans (hbl.mono hw0.size)
              have hcl := heap_below hcell hbl
              have e0 := cell2_0 hcl
              have e1 := cell2_1 hcl
              by_cases hkt : k < d.2.length
              · have hkt' : decide ((k : Int) < d.2.length) = true := by simp; omega
                obtain ⟨a, rfl, q0, q1⟩ := hcc k hkt
                obtain ⟨x, hx⟩ : ∃ x, x = d.2[k] := ⟨_, rfl⟩
                rw [← hx] at q0 q1
                have q0' := cell_below hwk q0
                have q1' := cell_below hwk q1
                clear hcc q0 q1
                obtain ⟨p, y⟩ := x
                dsimp only at q0' q1'
                have q1' := cell_next q1'
                have hbad : badWrite (size d) (p, y) = true → r = (2, k) := by
                  intro hb
                  rw [hHr.out, find_at hkt (by rw [← hx]; exact hb) (fun j hj hjk => hnw.out j hj hjk)]
                have hgood : badWrite (size d) (p, y) = false → ∀ j (hj : j < d.2.length), j < k + 1 → badWrite (size d) d.2[j] = false := by
                  intro hb j hj hjk
                  rcases Nat.lt_or_ge j k with h | h
                  · exact hnw.out j hj h
                  · obtain rfl : j = k := by omega
                    rw [← hx]; exact hb
                by_cases hy : y = []
                · subst hy
                  have hr := hbad rfl
                  clear hbad hgood hx
                  go_wp2
                  go_quiet (fail)
                  go_wp2
                  go_ret2
                  exact ⟨by rw [hr]; rfl, Go.Joins.below_draws _ _ _ |> hwk.trans⟩
                · have hy' : y.isEmpty = false := by cases y <;> simp_all
                  have hyl : ((y.length : Int) == 0) = false := by cases y <;> simp_all; omega
                  have HIn := fun W => HI p y.length W (by unfold Disk11.size; omega)
                  unfold badWrite at hbad hgood
                  dsimp only at hbad hgood
                  rw [hy', Bool.false_or] at hbad hgood
                  have hsz : ((size d : Nat) : Int) = 64 * (d.1.length : Int) := by unfold Disk11.size; omega
                  generalize inside (size d) p y.length = b at *
                  rw [hsz] at HIn
                  have hHb := Lib.hid hbad
                  have hHg := Lib.hid hgood
                  clear hx hy hbad hgood hsz
                  go_wp2
                  go_quiet (first | (go_at_call 77; exact Calls.quiet_of_same (HIn _).out))
                  have hwkn := fun n => hwk.trans (Go.Joins.below_draws w.heap.size wr n)
                  have hbln := fun n => hbl.trans (Go.Joins.below_draws W0.heap.size wr n)
                  have hHk := Lib.hid hwkn
                  have hHl := Lib.hid hbln
                  clear hwkn hbln
                  cases b with
                  | true =>
                    go_wp2
                    exact ⟨⟨k + 1, rfl, hkt, Lib.hid (hHg.out rfl), hHl.out _⟩, by simp [intOf]; omega⟩
                  | false =>
                    have hr := hHb.out rfl
                    go_wp2
                    go_ret2
                    exact ⟨by rw [hr]; rfl, hHk.out _⟩
              · obtain rfl : k = d.2.length := by omega
                have hkt' : decide ((d.2.length : Int) < d.2.length) = false := by simp
                have hnone : d.2.findIdx? (badWrite (size d)) = none := find_none (fun j hj => hnw.out j hj hj)
                have hr2 := hHr.out
                rw [hnone] at hr2
                subst hr2
                clear hnone hHr hcc
                go_wp2
                go_ret2
                exact ⟨rfl, hwk⟩
end Go.Proofs.YthhghggaoljcbaaDoor
