/- The walks of the statements StuffBack and StuffOnly. -/
import Derived.Test.YtcpahelmaejjeaaDoorStuffL
namespace Go.Proofs.YtcpahelmaejjeaaDoor
open Go.RowKit Go.Shelf Stuff10

set_option maxHeartbeats 1000000 in
theorem back_any (s : ByteArray) (hs : s.size ≤ 140737488351232) (w : World) :
    Calls Tryd.prog 3 #[.string s] w fun e w' => e = .returned (.bool true) ∧ Below w.heap.size w w' := by
  have HA := Lib.hid (fun W => awake_any W)
  by_cases h : 2000 < s.size
  · have h' : decide ((2000 : Int) < s.size) = true := by simp; omega
    go_enter Tryd.func3, Tryd.ntmps3
    go_wp2_with fail
    refine (HA.out _).mono ?_
    rintro e w1 ⟨rfl, hb1⟩
    go_wp2
    go_ret
    exact ⟨rfl, hb1⟩
  · have h' : decide ((2000 : Int) < s.size) = false := by simp; omega
    obtain ⟨ha, hz1, hz2⟩ := put_sizes _ s.data.toList (Nat.le_refl _)
    have hp := put_any s (by omega) w
    obtain ⟨t, ht⟩ : ∃ t : ByteArray, t = ⟨(put s.data.toList).toArray⟩ := ⟨_, rfl⟩
    have htl : t.data.toList = put s.data.toList := by rw [ht]
    rw [← ht] at hp
    rw [← htl] at ha hz1 hz2
    rw [length_size, length_size] at hz1 hz2
    have hg : ∀ W, Calls Tryd.prog 13 #[.string t] W fun e w' => e = .returned (.tuple #[.string s, .agg #[.int .i64 0, .int .i64 0]]) ∧ Below W.heap.size W w' := by
      intro W
      have h := Get_any t (by omega) W
      rw [htl, get_put] at h
      exact h
    have HG := Lib.hid hg
    have HP := Lib.hid hp
    have HZ := Lib.hid ha
    clear hg hp ha ht htl
    have hc1 : decide ((t.size : Int) ≤ s.size) = false := by simp; omega
    have hq : Int.tdiv (s.size : Int) 254 = ((s.size / 254 : Nat) : Int) := by rw [Int.tdiv_eq_ediv_of_nonneg (by omega)]; rfl
    have hc2 : decide ((s.size : Int) + 1 + ((s.size / 254 : Nat) : Int) < t.size) = false := by simp; omega
    go_enter Tryd.func3, Tryd.ntmps3
    go_wp2_with fail
    refine HP.out.mono ?_
    rintro e w1 ⟨rfl, hb1⟩
    go_wp2
    go_loopw [5] (fun i wr => ∃ k : Nat, i = .int .i64 k ∧ k ≤ t.size ∧ wr = w1) (fun i _ => t.size - (intOf i).toNat)
    case atStart => exact ⟨0, rfl, Nat.zero_le _, rfl⟩
    case round =>
      obtain ⟨k, rfl, hk, rfl⟩ := hrel
      by_cases hlt : k < t.size
      · have hne : ((t[k].toNat : Int) == 0) = false := by
          have hz := HZ.out
          rw [List.all_eq_true] at hz
          have hm := hz t[k] (by rw [show t[k] = t.data.toList[k]'(by rw [length_size]; exact hlt) from rfl]; exact List.getElem_mem _)
          rw [beq_eq_false_iff_ne]
          intro e
          have : t[k] = 0 := UInt8.toNat_inj.1 (by simpa using e)
          rw [this] at hm; cases hm
        go_wp2
        go_roundw
        case rel => exact ⟨k + 1, rfl, hlt, trivial⟩
        case measure => simp [intOf]; omega
      · obtain rfl : k = t.size := by omega
        go_wp2_with fail
        refine (HG.out _).mono ?_
        rintro e w2 ⟨rfl, hb2⟩
        go_wp2_with fail
        refine (HA.out _).mono ?_
        rintro e w3 ⟨rfl, hb3⟩
        go_wp2
        go_ret
        exact ⟨rfl, andThen ((andThen hb1 hb2).alloc (andThen hb1 hb2).size _) hb3⟩

set_option maxHeartbeats 1000000 in
theorem only_any (s : ByteArray) (hs : s.size ≤ 140737488351232) (w : World) :
    Calls Tryd.prog 4 #[.string s] w fun e w' => e = .returned (.bool true) ∧ Below w.heap.size w w' := by
  have HA := Lib.hid (fun W => awake_any W)
  by_cases h : 2000 < s.size
  · have h' : decide ((2000 : Int) < s.size) = true := by simp; omega
    go_enter Tryd.func4, Tryd.ntmps4
    go_wp2_with fail
    refine (HA.out _).mono ?_
    rintro e w1 ⟨rfl, hb1⟩
    go_wp2
    go_ret
    exact ⟨rfl, hb1⟩
  · have h' : decide ((2000 : Int) < s.size) = false := by simp; omega
    have hg := Get_any s hs w
    by_cases he : (getS s.data.toList).2.1 = 0
    · obtain ⟨h1, h2, h3⟩ := get_ok he
      rw [h3] at hg
      unfold getV at hg
      dsimp only at hg
      rw [length_size] at h2
      obtain ⟨t, ht⟩ : ∃ t : ByteArray, t = ⟨(getS s.data.toList).1.toArray⟩ := ⟨_, rfl⟩
      have hp := fun W => put_any t (by rw [ht, size_mk]; omega) W
      rw [ht, h1, whole, ← ht] at hp
      rw [← ht] at hg
      have HG := Lib.hid hg
      have HP := Lib.hid hp
      clear hg hp ht h1 h2 h3 he
      go_enter Tryd.func4, Tryd.ntmps4
      go_wp2_with fail
      refine HG.out.mono ?_
      rintro e w1 ⟨rfl, hb1⟩
      go_wp2_with fail
      refine (HP.out _).mono ?_
      rintro e w2 ⟨rfl, hb2⟩
      go_wp2_with fail
      refine (HA.out _).mono ?_
      rintro e w3 ⟨rfl, hb3⟩
      go_wp2
      go_ret
      exact ⟨rfl, andThen (hb1.trans (((Below.refl _ w1).alloc (Nat.le_refl _) _).trans (hb2.mono (by simp)) |>.mono hb1.size)) hb3⟩
    · have hne : (((getS s.data.toList).2.1 : Nat) == (0 : Int)) = false := by simpa using he
      unfold getV at hg
      generalize (getS s.data.toList) = r at *
      obtain ⟨t, e, a⟩ := r
      dsimp only at hg hne
      have HG := Lib.hid hg
      clear hg he
      go_enter Tryd.func4, Tryd.ntmps4
      go_wp2_with fail
      refine HG.out.mono ?_
      rintro e w1 ⟨rfl, hb1⟩
      go_wp2_with fail
      refine (HA.out _).mono ?_
      rintro e w3 ⟨rfl, hb3⟩
      go_wp2
      go_ret
      exact ⟨rfl, andThen (hb1.alloc hb1.size _) hb3⟩
end Go.Proofs.YtcpahelmaejjeaaDoor
