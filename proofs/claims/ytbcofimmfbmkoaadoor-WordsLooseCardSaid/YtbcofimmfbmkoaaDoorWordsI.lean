/- The walks of Unquote and word of chapter 3. -/
import Derived.Test.YtbcofimmfbmkoaaDoorWordsH
import Derived.Deep.RegionHeld3
namespace Go.Proofs.YtbcofimmfbmkoaaDoor
open Go.RowKit Words3

theorem below_of_grow {B b : Nat} {w W1 W2 : World} (h : Below B w W1) (g : W1.grownBy W2 (some b)) (hB : B ≤ w.heap.size) (hb : B ≤ b) : Below B w W2 := h.grown g (Nat.le_trans hB h.size) (fun k hk => by cases hk; exact hb)
theorem bodyF_rest' (s : ByteArray) (k : Nat) (hk : k ≤ s.size) (x : Body) (hx : bodyF (s.data.toList.drop k) = x) (hok : x.ok = true) : ∃ j, x.rest = s.data.toList.drop j ∧ k < j ∧ j ≤ s.size := by
  obtain ⟨i, h1, h2, h3, _⟩ := bodyF_rest (s.data.toList.drop k) (by rw [hx]; exact hok)
  rw [List.length_drop, bytes_len] at h3
  rw [hx, List.drop_drop] at h1
  exact ⟨k + i, h1, by omega, by omega⟩
set_option maxHeartbeats 2000000 in
theorem Unquote_any (s : ByteArray) (hs : s.size ≤ 100000) (w : World) : Calls Tryd.prog 15 #[.string s] w fun e w' => e = .returned (.tuple #[.string ⟨(unquoteF s.data.toList).text.toArray⟩, .int .i64 ((unquoteF s.data.toList).err : Int)]) ∧ Below w.heap.size w w' := by
  obtain ⟨x, hx⟩ : ∃ x, bodyF s.data.toList = x := ⟨_, rfl⟩
  have hu : unquoteF s.data.toList = if (x.ok && x.rest.isEmpty) = true then ⟨x.text, 0⟩ else ⟨[], 3⟩ := by unfold unquoteF; rw [hx]
  have hr := bodyF_rest' s 0 (Nat.zero_le _) x (by rw [List.drop_zero]; exact hx)
  have hnew : Scn (w.alloc (.cells #[.string s, .int .i64 0] 66)) w.heap.size s 0 := World.alloc_heap_new w _
  have hb := Go.Joins.below_alloc1 w (.cells #[.string s, .int .i64 0] 66)
  have HB := Lib.hid (body_any _ w.heap.size 0 s hs hnew (Nat.zero_le _) x (by rw [List.drop_zero]; exact hx))
  clear hnew hx
  unfold BPost at HB
  have h0 := Lib.hid hb
  clear hb
  obtain ⟨t, ok, rest⟩ := x
  dsimp only at hu hr HB
  cases ok with
  | false =>
    rw [Bool.false_and, if_neg (by simp)] at hu
    have hu := Lib.hid hu
    go_enter Tryd.func15, Tryd.ntmps15
    go_wp2_with fail
    refine HB.out.mono ?_
    rintro e w1 ⟨rfl, k', hk', s1, _⟩
    have S1 := Lib.hid s1
    clear s1
    go_wp2_with fail
    go_ret2
    exact ⟨by rw [hu.out]; rfl, below_of_grow h0.out S1.out.grow (Nat.le_refl _) (Nat.le_refl _)⟩
  | true =>
    obtain ⟨j, hrest, hj1, hj2⟩ := hr rfl
    rw [Bool.true_and] at hu
    have hE : rest.isEmpty = decide (j = s.size) := by
      rw [hrest, Bool.eq_iff_iff, List.isEmpty_iff, decide_eq_true_eq, ← List.length_eq_zero_iff, List.length_drop, bytes_len]; omega
    have hpos : posOf s rest = j := by rw [hrest]; exact posOf_drop s j hj2
    have HR := Lib.hid (And.intro hE hpos)
    clear hrest hE hpos hr
    rcases Nat.lt_or_ge j s.size with hlt | hge
    · rw [HR.out.1, decide_eq_false (by omega)] at hu
      have hu2 := Lib.hid hu
      clear hu
      go_enter Tryd.func15, Tryd.ntmps15
      go_wp2_with fail
      refine HB.out.mono ?_
      rintro e w1 ⟨rfl, k', hk', s1, hp⟩
      obtain rfl : k' = j := (hp (by simp)).trans HR.out.2
      have S1 := Lib.hid s1
      clear s1 hp
      go_wp2_with fail
      refine (more_yes _ _ _ s S1.out.box hlt).mono ?_
      rintro e w2 ⟨rfl, m, rfl⟩
      go_wp2_with fail
      go_ret2
      exact ⟨by rw [hu2.out]; rfl, below_of_grow h0.out (grow_trans S1.out.grow (grow_drew _ m _)) (Nat.le_refl _) (Nat.le_refl _)⟩
    · rw [HR.out.1, decide_eq_true (by omega), if_pos rfl] at hu
      have hu2 := Lib.hid hu
      clear hu
      go_enter Tryd.func15, Tryd.ntmps15
      go_wp2_with fail
      refine HB.out.mono ?_
      rintro e w1 ⟨rfl, k', hk', s1, hp⟩
      obtain rfl : k' = j := (hp (by simp)).trans HR.out.2
      have S1 := Lib.hid s1
      clear s1 hp
      go_wp2_with fail
      refine (more_no _ _ _ s S1.out.box hge).mono ?_
      rintro e w2 ⟨rfl, m, rfl⟩
      go_wp2_with fail
      go_ret2
      exact ⟨by rw [hu2.out]; rfl, below_of_grow h0.out (grow_trans S1.out.grow (grow_drew _ m _)) (Nat.le_refl _) (Nat.le_refl _)⟩
end Go.Proofs.YtbcofimmfbmkoaaDoor
