/- The walk of the reference's record, chapter 12 (journal). -/
import Derived.Test.YthhghggaoljcbaaDoorJournalK
namespace Go.Proofs.YthhghggaoljcbaaDoor
open Go.RowKit Disk11 Journal12 Sum2

theorem recJ_len {r : List UInt8} (h : r.length < 11) : recJ r = none := recJ_none (by omega)
theorem recJ_no0 {r : List UInt8} {b : UInt8} (h : r[0]? = some b) (hb : b ≠ 183) : recJ r = none := by
  cases hr : recJ r with
  | none => rfl
  | some x => have := recJ_head hr; rw [h] at this; exact absurd (Option.some.inj this) hb
theorem recJ_no3 {r : List UInt8} {b c : UInt8} (h1 : r[1]? = some b) (h3 : r[3]? = some c) (hb : c ≠ 255 - b) : recJ r = none := by
  cases hr : recJ r with
  | none => rfl
  | some x =>
    have e := (recJ_some hr).1
    have e1 : r[1]? = some (UInt8.ofNat (x.length / 256)) := by rw [e]; rfl
    have e3 : r[3]? = some (255 - UInt8.ofNat (x.length / 256)) := by rw [e]; rfl
    rw [h1] at e1; rw [h3] at e3
    rw [Option.some.inj e1, Option.some.inj e3] at hb
    exact absurd rfl hb
theorem recJ_no4 {r : List UInt8} {b c : UInt8} (h1 : r[2]? = some b) (h3 : r[4]? = some c) (hb : c ≠ 255 - b) : recJ r = none := by
  cases hr : recJ r with
  | none => rfl
  | some x =>
    have e := (recJ_some hr).1
    have e1 : r[2]? = some (UInt8.ofNat x.length) := by rw [e]; rfl
    have e3 : r[4]? = some (255 - UInt8.ofNat x.length) := by rw [e]; rfl
    rw [h1] at e1; rw [h3] at e3
    rw [Option.some.inj e1, Option.some.inj e3] at hb
    exact absurd rfl hb
theorem str_atI (y : List UInt8) (t : Nat) (z : Int) (hz : z = (t : Int)) (b : UInt8) (h : y[t]? = some b) (W : World) : (Instr.index 9 (.string ⟨y.toArray⟩) (.int .i64 z)).run Tryd.prog W = .ok (.int .u8 (b.toNat : Int)) W := by
  subst hz; exact str_at y t b h W
theorem u8_neg {b c : UInt8} (h : c ≠ 255 - b) : ((c.toNat : Int) != 255 - (b.toNat : Int)) = true := by
  rw [bne_iff_ne]
  intro e
  apply h
  apply UInt8.toNat_inj.1
  rw [UInt8.toNat_sub]
  have h1 := b.toNat_lt; have h2 := c.toNat_lt
  have h3 : (255 : UInt8).toNat = 255 := rfl
  rw [h3]
  omega
theorem u8_pos (b : UInt8) : (((255 - b : UInt8).toNat : Int) != 255 - (b.toNat : Int)) = false := by
  have h1 := b.toNat_lt
  have h3 : (255 : UInt8).toNat = 255 := rfl
  have : (255 - b : UInt8).toNat = 255 - b.toNat := by rw [UInt8.toNat_sub, h3]; omega
  rw [this]
  have : ((255 - b.toNat : Nat) : Int) = 255 - (b.toNat : Int) := by omega
  rw [this]; simp
def RecPost (s : List UInt8) (a : Nat) (e : Ending) : Prop :=
  match recJ (s.drop a) with
  | none => e = .returned (.tuple #[.string ⟨#[]⟩, .bool false])
  | some x => e = .returned (.tuple #[.string ⟨x.toArray⟩, .bool true])
theorem RecPost.none {s : List UInt8} {a : Nat} {e : Ending} (h : recJ (s.drop a) = none) (he : e = .returned (.tuple #[.string ⟨#[]⟩, .bool false])) : RecPost s a e := by unfold RecPost; rw [h]; exact he
theorem RecPost.some {s x : List UInt8} {a : Nat} {e : Ending} (h : recJ (s.drop a) = some x) (he : e = .returned (.tuple #[.string ⟨x.toArray⟩, .bool true])) : RecPost s a e := by unfold RecPost; rw [h]; exact he

set_option maxHeartbeats 8000000 in
set_option maxRecDepth 100000 in
theorem Rrecord_any (s : List UInt8) (a : Nat) (w : World) (ha : a ≤ s.length) (hs : s.length ≤ 262144) :
    Calls Tryd.prog 82 #[.string ⟨s.toArray⟩, .int .i64 (a : Int)] w fun e w' => RecPost s a e ∧ Below w.heap.size w w' := by
  have hsz : (⟨s.toArray⟩ : ByteArray).size = s.length := rfl
  have hrl : (s.drop a).length = s.length - a := List.length_drop
  by_cases h1 : s.length - a < 11
  · have h1' : decide ((s.length : Int) - (a : Int) < 11) = true := by simp; omega
    have hP := Lib.hid (fun e (he : e = Ending.returned (.tuple #[.string ⟨#[]⟩, .bool false])) => RecPost.none (s := s) (a := a) (recJ_len (by omega)) he)
    go_enter Tryd.func82, Tryd.ntmps82
    go_wp2
    exact bodyPost_ret (results_tmp2 rfl _ _ _) rfl ⟨hP.out _ rfl, Below.refl _ _⟩
  have h1' : decide ((s.length : Int) - (a : Int) < 11) = false := by simp; omega
  have gt : ∀ i, i < 11 → ∃ b, s[a + i]? = some b ∧ (s.drop a)[i]? = some b := fun i hi => by
    have e : s[a + i]? = some (s[a + i]'(by omega)) := List.getElem?_eq_getElem _
    exact ⟨_, e, by rw [List.getElem?_drop]; exact e⟩
  obtain ⟨b0, q0, r0⟩ := gt 0 (by omega)
  obtain ⟨b1, q1, r1⟩ := gt 1 (by omega)
  obtain ⟨b2, q2, r2⟩ := gt 2 (by omega)
  obtain ⟨b3, q3, r3⟩ := gt 3 (by omega)
  obtain ⟨b4, q4, r4⟩ := gt 4 (by omega)
  have i0 := str_atI s (a + 0) (a : Int) (by omega) b0 q0
  have i1 := str_atI s (a + 1) ((a : Int) + 1) (by omega) b1 q1
  have i2 := str_atI s (a + 2) ((a : Int) + 2) (by omega) b2 q2
  have i3 := str_atI s (a + 3) ((a : Int) + 3) (by omega) b3 q3
  have i4 := str_atI s (a + 4) ((a : Int) + 4) (by omega) b4 q4
  clear gt q0 q1 q2 q3 q4
  by_cases g0 : b0 = 183
  case neg =>
    have g0' : ((b0.toNat : Int) != 183) = true := by
      rw [bne_iff_ne]; intro e; exact g0 (UInt8.toNat_inj.1 (by show b0.toNat = 183; omega))
    have hP := Lib.hid (fun e (he : e = Ending.returned (.tuple #[.string ⟨#[]⟩, .bool false])) => RecPost.none (s := s) (a := a) (recJ_no0 r0 g0) he)
    clear i1 i2 i3 i4 r0 r1 r2 r3 r4 g0
    go_enter Tryd.func82, Tryd.ntmps82
    go_wp2
    exact bodyPost_ret (results_tmp2 rfl _ _ _) rfl ⟨hP.out _ rfl, Below.refl _ _⟩
  case pos =>
  have g0' : ((b0.toNat : Int) != 183) = false := by rw [g0]; rfl
  have hl := lenJ_bits r1 r2
  obtain ⟨n, hn⟩ : ∃ n, n = lenJ (s.drop a) := ⟨_, rfl⟩
  have hnb : 256 * (b1.toNat : Int) + (b2.toNat : Int) = (n : Int) := by omega
  have l1 := u8lt b1
  have l2 := u8lt b2
  have hn1 : n < 65536 := by omega
  clear hl r0 g0
  by_cases g3 : b3 = 255 - b1
  case neg =>
    have g3' := u8_neg g3
    have hP := Lib.hid (fun e (he : e = Ending.returned (.tuple #[.string ⟨#[]⟩, .bool false])) => RecPost.none (s := s) (a := a) (recJ_no3 r1 r3 g3) he)
    clear i4 r1 r2 r3 r4 g3 hn hn1
    go_enter Tryd.func82, Tryd.ntmps82
    go_wp2_with fail
    go_region
    go_wp2_with fail
    go_region
    go_wp2
    exact bodyPost_ret (results_tmp2 rfl _ _ _) rfl ⟨hP.out _ rfl, (Below.refl _ w).drew.drew⟩
  case pos =>
  have g3' := u8_pos b1
  rw [← g3] at g3'
  by_cases g4 : b4 = 255 - b2
  case neg =>
    have g4' := u8_neg g4
    have hP := Lib.hid (fun e (he : e = Ending.returned (.tuple #[.string ⟨#[]⟩, .bool false])) => RecPost.none (s := s) (a := a) (recJ_no4 r2 r4 g4) he)
    clear r1 r2 r3 r4 g3 g4 hn hn1
    go_enter Tryd.func82, Tryd.ntmps82
    go_wp2_with fail
    go_region
    go_wp2_with fail
    go_region
    go_wp2
    exact bodyPost_ret (results_tmp2 rfl _ _ _) rfl ⟨hP.out _ rfl, (Below.refl _ w).drew.drew⟩
  case pos =>
  have g4' := u8_pos b2
  rw [← g4] at g4'
  clear r1 r2 r3 r4 g3 g4
  by_cases n1 : n < 1
  · have n1' : decide ((n : Int) < 1) = true := by simp; omega
    have hP := Lib.hid (fun e (he : e = Ending.returned (.tuple #[.string ⟨#[]⟩, .bool false])) => RecPost.none (s := s) (a := a) (recJ_none (.inr (.inl (by omega)))) he)
    clear hn n1
    go_enter Tryd.func82, Tryd.ntmps82
    go_wp2_with fail
    go_region
    go_wp2_with fail
    go_region
    go_wp2
    exact bodyPost_ret (results_tmp2 rfl _ _ _) rfl ⟨hP.out _ rfl, (Below.refl _ w).drew.drew⟩
  have n1' : decide ((n : Int) < 1) = false := by simp; omega
  by_cases n2 : 60000 < n
  · have n2' : decide ((60000 : Int) < n) = true := by simp; omega
    have hP := Lib.hid (fun e (he : e = Ending.returned (.tuple #[.string ⟨#[]⟩, .bool false])) => RecPost.none (s := s) (a := a) (recJ_none (.inr (.inr (.inl (by omega))))) he)
    clear hn n1 n2
    go_enter Tryd.func82, Tryd.ntmps82
    go_wp2_with fail
    go_region
    go_wp2_with fail
    go_region
    go_wp2
    exact bodyPost_ret (results_tmp2 rfl _ _ _) rfl ⟨hP.out _ rfl, (Below.refl _ w).drew.drew⟩
  have n2' : decide ((60000 : Int) < n) = false := by simp; omega
  by_cases n3 : s.length - a < n + 10
  · have n3' : decide ((s.length : Int) - (a : Int) < (n : Int) + 10) = true := by simp; omega
    have hP := Lib.hid (fun e (he : e = Ending.returned (.tuple #[.string ⟨#[]⟩, .bool false])) => RecPost.none (s := s) (a := a) (recJ_none (.inr (.inr (.inr (.inl (by omega)))))) he)
    clear hn n1 n2 n3
    go_enter Tryd.func82, Tryd.ntmps82
    go_wp2_with fail
    go_region
    go_wp2_with fail
    go_region
    go_wp2
    exact bodyPost_ret (results_tmp2 rfl _ _ _) rfl ⟨hP.out _ rfl, (Below.refl _ w).drew.drew⟩
  have n3' : decide ((s.length : Int) - (a : Int) < (n : Int) + 10) = false := by simp; omega
  obtain ⟨x, hx⟩ : ∃ x, x = ((s.drop a).drop 9).take n := ⟨_, rfl⟩
  have hxl : x.length = n := by rw [hx, List.length_take, List.length_drop]; omega
  obtain ⟨y, hy⟩ : ∃ y, y = (s.drop a).take (n + 10) := ⟨_, rfl⟩
  have hs1 : ∀ W, (Instr.slice 9 (.string ⟨s.toArray⟩) (some (.int .i64 (a : Int))) (some (.int .i64 ((a : Int) + 10 + (n : Int)))) none).run Tryd.prog W = .ok (.string ⟨y.toArray⟩) W := fun W => by
    have := sub_mid s a (a + 10 + n) (by omega) (by omega) W
    rw [show a + 10 + n - a = n + 10 by omega, ← hy] at this
    have e : (a : Int) + 10 + (n : Int) = ((a + 10 + n : Nat) : Int) := by omega
    rw [e]
    exact this
  have w1 : IntKind.i64.wrap ((a : Int) + 10) = (a : Int) + 10 := by rw [IntKind.wrap_i64]; omega
  have w2 : IntKind.i64.wrap ((a : Int) + 10 + (n : Int)) = (a : Int) + 10 + (n : Int) := by rw [IntKind.wrap_i64]; omega
  have hs2 : ∀ W, (Instr.slice 9 (.string ⟨s.toArray⟩) (some (.int .i64 ((a : Int) + 9))) (some (.int .i64 ((a : Int) + 9 + (n : Int)))) none).run Tryd.prog W = .ok (.string ⟨x.toArray⟩) W := fun W => by
    have := sub_mid s (a + 9) (a + 9 + n) (by omega) (by omega) W
    rw [show a + 9 + n - (a + 9) = n by omega, ← List.drop_drop, ← hx] at this
    have e : (a : Int) + 9 + (n : Int) = ((a + 9 + n : Nat) : Int) := by omega
    rw [e]
    exact this
  have HF := Lib.hid (fun W => Rform_any x (by omega) W)
  obtain ⟨F, hF⟩ : ∃ F, F = formJ x := ⟨_, rfl⟩
  rw [← hF] at HF
  have hyes : F = y → recJ (s.drop a) = some x := fun e => by
    rw [hx, hn]
    refine recJ_yes ?_
    rw [← hn]
    rintro (g | g | g | g | g)
    · omega
    · exact n1 g
    · exact n2 g
    · omega
    · exact g (by rw [← hx, ← hF, e, hy])
  have hno : F ≠ y → recJ (s.drop a) = none := fun e => by
    refine recJ_none (.inr (.inr (.inr (.inr ?_))))
    rw [← hn, ← hx, ← hF, ← hy]
    exact fun g => e g.symm
  have hY := Lib.hid (fun (e : F = y) => RecPost.some (e := Ending.returned (.tuple #[.string ⟨x.toArray⟩, .bool true])) (hyes e) rfl)
  have hN := Lib.hid (fun (e : F ≠ y) => RecPost.none (e := Ending.returned (.tuple #[.string ⟨#[]⟩, .bool false])) (hno e) rfl)
  have hn2 : n ≤ 60000 := by omega
  have ha2 : a ≤ 262144 := by omega
  clear hx hy hn hF hyes hno n1 n2 n3 hxl
  go_enter Tryd.func82, Tryd.ntmps82
  go_wp2_with fail
  go_region
  go_wp2_with fail
  go_region
  go_wp2_with fail
  go_region_held3 (fun _ => True) (trivial) (first | (go_at_call 56; refine (HF.out _).mono ?_; rintro e w5 ⟨rfl, b5⟩))
  have hb5 := (Below.refl w.heap.size w).drew.drew.drew.trans b5
  clear b5
  generalize hB : (!(F == y)) = B
  cases B with
  | false =>
    have hyf : F = y := by simpa using hB
    clear hB
    go_wp2
    refine bodyPost_ret (results_tmp2 rfl _ _ _) rfl ⟨?_, hb5⟩
    exact hY.out hyf
  | true =>
    have hyf : F ≠ y := by simpa using hB
    clear hB
    go_wp2
    refine bodyPost_ret (results_tmp2 rfl _ _ _) rfl ⟨?_, hb5⟩
    exact hN.out hyf
end Go.Proofs.YthhghggaoljcbaaDoor
