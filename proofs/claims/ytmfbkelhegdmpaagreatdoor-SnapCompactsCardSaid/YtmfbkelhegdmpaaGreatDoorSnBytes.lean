/- The walks of Bytes and text, chapter 13 (snap): some text of at most so many bytes. -/
import Derived.Test.YtmfbkelhegdmpaaGreatDoorKitAll
namespace Go.Proofs.YtmfbkelhegdmpaaGreatDoor
open Go.RowKit

set_option maxHeartbeats 4000000 in
set_option maxRecDepth 100000 in
theorem Bytes_some (ns : List Int) (v : Value) (m : Int) (w : World) (hl : ns.length ≤ 1000) (hwf : ∀ n ∈ ns, I64 n) (h : Row w 1 v ns.length (ns.map fun n => .int .i64 n)) :
    Calls Tryz.prog 78 #[v, .int .i64 m] w fun e w' => ∃ x : List UInt8, e = .returned (.string ⟨x.toArray⟩) ∧ x.length ≤ ns.length ∧ Below w.heap.size w w' := by
  obtain ⟨va, vc, rfl, _⟩ := h.slice
  have R0 := Lib.hid h
  have HW := Lib.hid hwf
  clear h hwf
  go_enter Tryz.func78, Tryz.ntmps78
  go_wp2
  go_loopw [5, 6] (fun ov i wr => ∃ (j : Nat) (x : List UInt8), i = .int .i64 (j : Int) ∧ j ≤ ns.length ∧ x.length = j ∧ Buf wr w.heap.size ov x ∧ Below w.heap.size w wr) (fun _ i _ => ns.length - (intOf i).toNat)
  case atStart => exact ⟨0, [], rfl, Nat.zero_le _, rfl, Buf.nil _ _, Below.refl _ _⟩
  case round =>
    obtain ⟨j, x, rfl, hj, hxj, hb, hbl⟩ := hrel
    obtain ⟨p1, h1⟩ : ∃ q, decide ((j : Int) < (ns.length : Int)) = q := ⟨_, rfl⟩
    obtain ⟨p2, h2⟩ : ∃ q, decide ((j : Int) < m) = q := ⟨_, rfl⟩
    have h1' : decide (j < ns.length) = p1 := by rw [← h1]; simp
    cases p1
    case true =>
      have hlt : j < ns.length := of_decide_eq_true h1'
      obtain ⟨la, hla, lx⟩ := R0.out.cell (j := j) (x := .int .i64 ns[j]) (by rw [List.getElem?_map, List.getElem?_eq_getElem hlt]; rfl)
      cases hla
      have lx := cell_below hbl lx
      have hwj := HW.out _ (List.getElem_mem hlt)
      obtain ⟨z, hz⟩ : ∃ z, z = ns[j] := ⟨_, rfl⟩
      rw [← hz] at lx hwj
      have B := Lib.hid hb
      have U := Lib.hid hbl
      have hX := Lib.hid hxj
      have hs := hbl.size
      clear hz hb hbl hxj
      cases p2
      case true =>
        go_wp2_with fail
        refine (Mod_some z 256 _ hwj (by decide) (by decide)).mono ?_
        rintro e w2 ⟨k, hk, rfl, rfl⟩
        have hk2 : k < 256 := by omega
        have hwk : IntKind.u8.wrap (k : Int) = (k : Int) := by simp [IntKind.wrap, IntKind.bits, IntKind.signed]; omega
        go_wp2_with (at_builtin; refine app_u8 (n := (k : Int)) rfl rfl w.heap.size rfl B.out (by simp [go_sem]) (by omega) (by omega) (by rw [hX.out]; omega) hs ?_; intro g cap w8 t8 b8 hg8)
        exact ⟨⟨j + 1, x ++ [UInt8.ofNat (k : Int).toNat], by go_num, hlt, by rw [List.length_append, hX.out]; rfl, t8, U.out.trans b8⟩, by simp [intOf]; omega⟩
      case false =>
        have hc := buf_string B.out
        go_wp2
        go_ret
        exact ⟨x, rfl, by rw [hX.out]; exact hj, U.out⟩
    case false =>
      have B := Lib.hid hb
      have U := Lib.hid hbl
      have hX := Lib.hid hxj
      have hc := buf_string B.out
      clear hb hbl hxj
      go_wp2
      go_ret
      exact ⟨x, rfl, by rw [hX.out]; exact hj, U.out⟩
theorem cell_at13 {w : World} {b t j : Nat} {cs : Array Value} {v : Value} (h : w.heap[b]? = some (.cells cs t (0, 0))) (hj : cs[j]? = some v) : w.cell? ⟨b, j, none⟩ = some v := by simp [World.cell?, h, hj]
set_option maxHeartbeats 4000000 in
set_option maxRecDepth 100000 in
theorem text_any13 (n : Int) (hn : I64 n) (w : World) :
    Calls Tryz.prog 32 #[.int .i64 n] w fun e w' => ∃ x : List UInt8, x.length ≤ 12 ∧ e = .returned (.string ⟨x.toArray⟩) ∧ Below w.heap.size w w' := by
  have HM := Lib.hid (fun W => Mod_some n 1073741824 W hn (by decide) (by decide))
  go_enter Tryz.func32, Tryz.ntmps32
  go_wp2_with fail
  refine (HM.out _).mono ?_
  rintro e w2 ⟨k, hk, rfl, rfl⟩
  have hk' := Lib.hid hk
  clear hk
  have hb : ∀ q : Int, 1 ≤ q → I64 ((k : Int) / q) := fun q hq => by
    have h1 := Int.ediv_nonneg (show (0 : Int) ≤ k by omega) (show 0 ≤ q by omega)
    have h2 := Int.ediv_le_self q (show (0 : Int) ≤ k by omega)
    have := hk'.out
    unfold I64; omega
  have hk0 : I64 (k : Int) := by have := hk'.out; unfold I64; omega
  have HB := Lib.hid (And.intro hb hk0)
  obtain ⟨ns, hns⟩ : ∃ ns : List Int, ns = [(k : Int), ((k : Int) / 8), ((k : Int) / 64), ((k : Int) / 512), ((k : Int) / 4096), ((k : Int) / 32768), ((k : Int) / 262144), ((k : Int) / 2097152), ((k : Int) / 16777216), (k : Int), (k : Int), (k : Int)] := ⟨_, rfl⟩
  have hw : ∀ x ∈ ns, I64 x := by
    intro x hx
    rw [hns] at hx
    simp only [List.mem_cons, List.not_mem_nil, or_false] at hx
    rcases hx with rfl | rfl | rfl | rfl | rfl | rfl | rfl | rfl | rfl | rfl | rfl | rfl <;> first | exact hk0 | exact hb _ (by decide)
  have hnl : ns.length = 12 := by rw [hns]; rfl
  have hcs : ((ns.map fun n => Value.int .i64 n).toArray : Array Value) = #[.int .i64 (k : Int), .int .i64 ((k : Int) / 8), .int .i64 ((k : Int) / 64), .int .i64 ((k : Int) / 512), .int .i64 ((k : Int) / 4096), .int .i64 ((k : Int) / 32768), .int .i64 ((k : Int) / 262144), .int .i64 ((k : Int) / 2097152), .int .i64 ((k : Int) / 16777216), .int .i64 (k : Int), .int .i64 (k : Int), .int .i64 (k : Int)] := by rw [hns]; rfl
  have R : Row (w.alloc (.cells #[.int .i64 (k : Int), .int .i64 ((k : Int) / 8), .int .i64 ((k : Int) / 64), .int .i64 ((k : Int) / 512), .int .i64 ((k : Int) / 4096), .int .i64 ((k : Int) / 32768), .int .i64 ((k : Int) / 262144), .int .i64 ((k : Int) / 2097152), .int .i64 ((k : Int) / 16777216), .int .i64 (k : Int), .int .i64 (k : Int), .int .i64 (k : Int)] 3)) 1 (.slice (some ⟨w.heap.size, 0, none⟩) 12 12) 12 (ns.map fun n => .int .i64 n) := by
    have kk := World.alloc_heap_new w (.cells #[.int .i64 (k : Int), .int .i64 ((k : Int) / 8), .int .i64 ((k : Int) / 64), .int .i64 ((k : Int) / 512), .int .i64 ((k : Int) / 4096), .int .i64 ((k : Int) / 32768), .int .i64 ((k : Int) / 262144), .int .i64 ((k : Int) / 2097152), .int .i64 ((k : Int) / 16777216), .int .i64 (k : Int), .int .i64 (k : Int), .int .i64 (k : Int)] 3)
    rw [← hcs] at kk ⊢
    refine ⟨by rw [List.length_map, hnl], _, _, rfl, Nat.le_refl _, fun j v hj => ⟨_, rfl, ?_⟩⟩
    rw [addr_add]
    exact cell_at13 kk (by rw [List.getElem?_toArray]; exact hj)
  have R' := Lib.hid R
  have a1 := Lib.hid (Go.Joins.below_alloc1 w (.cells #[.int .i64 (k : Int), .int .i64 ((k : Int) / 8), .int .i64 ((k : Int) / 64), .int .i64 ((k : Int) / 512), .int .i64 ((k : Int) / 4096), .int .i64 ((k : Int) / 32768), .int .i64 ((k : Int) / 262144), .int .i64 ((k : Int) / 2097152), .int .i64 ((k : Int) / 16777216), .int .i64 (k : Int), .int .i64 (k : Int), .int .i64 (k : Int)] 3))
  have HW := Lib.hid hw
  have hn12 := Lib.hid hnl
  clear hb hk0 hw hnl hcs R hns HM
  go_wp2_with fail
  refine (Bytes_some ns _ _ _ (by rw [hn12.out]; decide) HW.out (by rw [hn12.out]; exact R'.out)).mono ?_
  rintro e w3 ⟨x, rfl, hx, b3⟩
  have hx2 := Lib.hid hx
  clear hx
  go_wp2
  go_ret
  exact ⟨x, by rw [← hn12.out]; exact hx2.out, rfl, a1.out.trans (b3.mono a1.out.size)⟩
end Go.Proofs.YtmfbkelhegdmpaaGreatDoor
