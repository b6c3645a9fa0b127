/- The walk of records, chapter 12 (journal): records made of numbers. -/
import Derived.Test.YthhghggaoljcbaaDoorKitAll
import Derived.Test.YthhghggaoljcbaaDoorJPlain
import Derived.Test.YthhghggaoljcbaaDoorJournalA
namespace Go.Proofs.YthhghggaoljcbaaDoor
open Go.RowKit Disk11 Journal12 Sum2

theorem I64_lit {x : Int} (h : (Lit.int .i64 x).wf = true) : I64 x := by
  simp [Lit.wf, IntKind.min, IntKind.max, IntKind.bits, IntKind.signed] at h
  unfold I64; omega
theorem one_string_l (c : Nat) (hc : c < 256) (w : World) : (convert 66 9 (.slice (some ⟨w.heap.size, 0, none⟩) 1 1)).run Tryd.prog (w.alloc (.cells #[.int .u8 (c : Int)] 5)) = .ok (.string ⟨[UInt8.ofNat c].toArray⟩) (w.alloc (.cells #[.int .u8 (c : Int)] 5)) := one_string c hc w
def RecsPost (w : World) (n : Nat) (e : Ending) (w' : World) : Prop :=
  ∃ (l : List (List UInt8)) (ad : Option Addr) (c : Nat), e = .returned (.slice ad l.length c) ∧ Txt w' w.heap.size (.slice ad l.length c) l ∧ l.length = min n 8 ∧ (∀ x ∈ l, 1 ≤ x.length ∧ x.length ≤ 40) ∧ Below w.heap.size w w'

set_option maxHeartbeats 4000000 in
set_option maxRecDepth 100000 in
theorem records_nums (nums : List Int) (v : Value) (w : World) (hl : nums.length ≤ maxLen) (hwf : ∀ n ∈ nums, (Lit.int .i64 n).wf = true) (hrow : Row w 1 v nums.length (nums.map fun n => .int .i64 n)) :
    Calls Tryd.prog 35 #[v] w (RecsPost w nums.length) := by
  have hlm := hl
  unfold maxLen at hlm
  clear hl
  have hRow := Lib.hid hrow
  have hWf := Lib.hid hwf
  obtain ⟨ad, c, rfl, _⟩ := hrow.slice
  clear hrow hwf
  go_enter Tryd.func35, Tryd.ntmps35
  go_wp2
  go_loopw [3, 4] (fun o i wr => ∃ (l : List (List UInt8)) (k : Nat), i = .int .i64 (k : Int) ∧ l.length = k ∧ k ≤ 8 ∧ k ≤ nums.length ∧ Txt wr w.heap.size o l ∧ Hid (∀ x ∈ l, 1 ≤ x.length ∧ x.length ≤ 40) ∧ Below w.heap.size w wr) (fun _ i _ => 8 - (intOf i).toNat)
  case atStart => exact ⟨[], 0, rfl, rfl, Nat.zero_le _, Nat.zero_le _, Txt.nil _ _, Lib.hid (by simp), Below.refl _ _⟩
  case round =>
    obtain ⟨l, k, rfl, hlk, hk8, hkn, htx, hsm, hbl⟩ := hrel
    obtain ⟨Wr, rfl⟩ : ∃ W, W = wr := ⟨wr, rfl⟩
    obtain ⟨oad, oc, rfl⟩ := htx.slice
    have hlk' := Lib.hid hlk
    clear hlk
    by_cases h1 : k < nums.length
    · have h1' : decide ((k : Int) < nums.length) = true := by simp; omega
      by_cases h2 : k < 8
      · have h2' : decide ((k : Int) < 8) = true := by simp; omega
        obtain ⟨na, rfl, q1⟩ := (hRow.out.below hbl).cell (j := k) (x := .int .i64 nums[k]) (by rw [List.getElem?_map, List.getElem?_eq_getElem h1]; rfl)
        have hz := I64_lit (hWf.out _ (List.getElem_mem h1))
        obtain ⟨z, hzz⟩ : ∃ z, z = nums[k] := ⟨_, rfl⟩
        rw [← hzz] at q1 hz
        clear hzz
        go_wp2_with fail
        refine (Mod_some z 65536 Wr hz (by decide) (by decide)).mono ?_
        rintro e w1 ⟨m, hm, rfl, rfl⟩
        obtain ⟨r, hr⟩ : ∃ r : Nat, r = m % 40 := ⟨_, rfl⟩
        obtain ⟨q, hq⟩ : ∃ q : Nat, q = m / 40 := ⟨_, rfl⟩
        have hr1 : (m : Int) % 40 = (r : Int) := by omega
        have hq1 : (m : Int) / 40 = (q : Int) := by omega
        have hr40 : r < 40 := by omega
        have hq2 : q ≤ 1638 := by omega
        have hm2 : m ≤ 65535 := by omega
        have ht1 : Int.tmod (m : Int) 40 = (r : Int) := by rw [Int.tmod_eq_emod_of_nonneg (by omega)]; exact hr1
        have ht2 : Int.tdiv (m : Int) 40 = (q : Int) := by rw [Int.tdiv_eq_ediv_of_nonneg (by omega)]; exact hq1
        clear hr hq hm
        go_wp2
        clear q1 hr1 hq1
        go_loopw [6, 7] (fun t j wr => ∃ (x : List UInt8), t = .string ⟨x.toArray⟩ ∧ j = .int .i64 (x.length : Int) ∧ x.length ≤ r + 1 ∧ Below Wr.heap.size Wr wr) (fun _ j _ => 41 - (intOf j).toNat)
        case atStart => exact ⟨[], rfl, rfl, by simp, Below.refl _ _⟩
        case round =>
          obtain ⟨x, rfl, rfl, hxr, hbx⟩ := hrel
          obtain ⟨Wx, rfl⟩ : ∃ W, W = wr := ⟨wr, rfl⟩
          by_cases hx : x.length ≤ r
          · have hx' : decide ((x.length : Int) ≤ (r : Int)) = true := by simp; omega
            obtain ⟨jj, hjj, hjb⟩ : ∃ jj : Nat, (x.length : Int) * (x.length : Int) = (jj : Int) ∧ jj ≤ 1600 := ⟨x.length * x.length, by simp, Nat.mul_le_mul (by omega : x.length ≤ 40) (by omega : x.length ≤ 40)⟩
            obtain ⟨b, hb, hb2⟩ : ∃ b : Nat, Int.tmod ((q : Int) + (jj : Int)) 256 = (b : Int) ∧ b < 256 := ⟨(q + jj) % 256, by rw [Int.tmod_eq_emod_of_nonneg (by omega)]; omega, by omega⟩
            have hcv := one_string_l b hb2 Wx
            have al := Go.Joins.below_alloc1 Wx (.cells #[.int .u8 (b : Int)] 5)
            have hx40 : x.length ≤ 40 := by omega
            have hba : (⟨x.toArray⟩ : ByteArray) ++ ⟨[UInt8.ofNat b].toArray⟩ = ⟨(x ++ [UInt8.ofNat b]).toArray⟩ := bytes_app _ _
            have hB := Lib.hid (hbx.trans (al.mono hbx.size))
            clear hbx al
            go_wp2
            exact ⟨⟨x ++ [UInt8.ofNat b], rfl, by simp, by simp; omega, hB.out⟩, by simp [intOf]; omega⟩
          · have hx' : decide ((x.length : Int) ≤ (r : Int)) = false := by simp; omega
            have hxn : decide (x.length ≤ r) = false := by simp; omega
            have hxe : 1 ≤ x.length ∧ x.length ≤ 40 := by omega
            have hbw := hbl.trans (hbx.mono hbl.size)
            have t7 := htx.below hbx
            have hkk : l.length ≤ 8 := by rw [hlk'.out]; exact hk8
            clear hxr
            go_wp2_with (at_builtin; refine app_str (n := x) rfl rfl w.heap.size rfl t7 (by simp [go_sem]) (by omega) hbw.size ?_; intro g cap w8 t8 b8 hg8 hgr8)
            have hlx : (l ++ [x]).length = k + 1 := by rw [List.length_append, hlk'.out]; rfl
            have hsx : ∀ y ∈ l ++ [x], 1 ≤ y.length ∧ y.length ≤ 40 := fun y hy => by
              rcases List.mem_append.1 hy with h | h
              · exact hsm.out y h
              · rw [List.mem_singleton.1 h]; exact hxe
            exact ⟨⟨l ++ [x], k + 1, by go_num, hlx, by omega, by omega, t8, Lib.hid hsx, hbw.trans b8⟩, by simp [intOf]; omega⟩
      · have h2' : decide ((k : Int) < 8) = false := by simp; omega
        go_wp2
        go_ret
        refine ⟨l, oad, oc, rfl, htx, ?_, hsm.out, hbl⟩
        rw [hlk'.out]; omega
    · have h1' : decide ((k : Int) < nums.length) = false := by simp; omega
      go_wp2
      go_ret
      refine ⟨l, oad, oc, rfl, htx, ?_, hsm.out, hbl⟩
      rw [hlk'.out]; omega
end Go.Proofs.YthhghggaoljcbaaDoor
