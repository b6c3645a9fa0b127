/- The walks of the reference's read and device, chapter 11 (disk). -/
import Derived.Test.YthhghggaoljcbaaDoorDiskR
import Derived.StillTailTactics
namespace Go.Proofs.YthhghggaoljcbaaDoor
open Go.RowKit Disk11

theorem Buf.lower {w : World} {B B' : Nat} {v : Value} {l : List UInt8} (h : Buf w B v l) (hB : B' ≤ B) : Buf w B' v l := own_lower h hB

/-- 'b[p : p+n]' and 'string' of it. -/
theorem slice_buf {w : World} {base : Nat} {v : Value} {l : List UInt8} (h : Buf w base v l) (p n : Nat) (hf : p + n ≤ l.length) : ∃ v', (∀ W, (Instr.slice 66 v (some (.int .i64 (p : Int))) (some (.int .i64 ((p : Int) + (n : Int)))) none).run Tryd.prog W = .ok v' W) ∧
    (convert 66 9 v').run Tryd.prog w = .ok (.string ⟨((l.drop p).take n).toArray⟩) w := by
  obtain ⟨ad, c, hv, hc, hcell⟩ : ∃ ad c, v = .slice ad l.length c ∧ l.length ≤ c ∧ (∀ j (hj : j < l.length), ∃ g, ad = some ⟨g, 0, none⟩ ∧ w.cell? ⟨g, j, none⟩ = some (.int .u8 (l[j].toNat : Int))) := by
    have h' := h
    rcases h'.2 with ⟨hv, h0⟩ | ⟨g, cap, cur, hv, _, _, hn, _⟩
    · refine ⟨_, _, by rw [hv, h0], by omega, fun j hj => by omega⟩
    · subst hv
      exact ⟨_, _, rfl, hn, fun j hj => ⟨g, rfl, h.cell j hj⟩⟩
  subst hv
  have hu : Tryd.prog.underlying 66 = some (.slice (Tryd.prog.elem 66)) := by kernel_rfl
  have hz : ∀ W, (Go.sizeOf (Tryd.prog.elem 66)).run Tryd.prog W = .ok 1 W := by
    rw [show Tryd.prog.elem 66 = 5 by kernel_rfl]
    exact Tryd.sizeOf5
  refine ⟨sliced ad p (p + n) c 1, fun W => ?_, ?_⟩
  · rw [run_slice_lh (P := Tryd.prog) W 66 ad l.length c hu .i64 .i64 (p : Int) ((p : Int) + (n : Int)) (by omega) (by omega) (by omega), hz]
    simp only [Result.andThen, Int.toNat_natCast]
    rw [show ((p : Int) + (n : Int)).toNat = p + n by omega]
  · have hlen : ((l.drop p).take n).length = n := by rw [List.length_take, List.length_drop]; omega
    unfold sliced
    by_cases hn0 : n = 0
    · subst hn0
      have hcv : ∀ (a : Option Addr) (c' : Nat), (convert 66 9 (.slice a 0 c')).run Tryd.prog w = .ok (.string ⟨#[]⟩) w := by
        intro a c'
        have := run_convert_bytes_string (P := Tryd.prog) w 66 9 5 a 0 c' Tryd.underlying66 Tryd.underlying5 Tryd.underlying9
        rw [this]
        cases a <;> rfl
      rw [show p + 0 - p = 0 by omega, hcv]
      simp
    · obtain ⟨g, rfl, _⟩ := hcell p (by omega)
      rw [if_neg (by omega), show p + n - p = n by omega]
      simp only [Option.map_some, Nat.mul_one, addr_add]
      have := run_convert_bytes_back (P := Tryd.prog) w 66 9 5 ⟨g, p, none⟩ (c - p) ((l.drop p).take n) Tryd.underlying66 Tryd.underlying5 Tryd.underlying9 (fun j hj => by
        have hj' : j < n := by omega
        obtain ⟨g', e, hcc⟩ := hcell (p + j) (by omega)
        cases e
        rw [show (⟨g, p, none⟩ : Addr).add j = ⟨g, p + j, none⟩ from by by_cases h : j = 0 <;> simp [Addr.add, h], hcc]
        simp)
      rw [hlen] at this
      exact this

set_option maxHeartbeats 4000000 in
set_option maxRecDepth 100000 in
theorem readR_any (d : Dev) (v : Value) (w : World) (h : DiskIs w d v) (hg : Disk11.Good d) :
    Calls Tryd.prog 98 #[v] w fun e w' => ∃ v', e = .returned v' ∧ Buf w' w.heap.size v' (readAll d) ∧ Below w.heap.size w w' := by
  have HB := Lib.hid (fun W h => bytesR_any d v W h hg)
  have hD := Lib.hid h
  obtain ⟨ab, cb, ac, cc, rfl, _, _, _, hcc⟩ := h.form
  clear h
  have hal := Go.Joins.below_alloc1 w (.cells #[.slice ab d.1.length cb, .slice ac d.2.length cc] 25)
  have hk1 := World.alloc_heap_new w (.cells #[.slice ab d.1.length cb, .slice ac d.2.length cc] 25)
  have hs1 : (w.alloc (.cells #[.slice ab d.1.length cb, .slice ac d.2.length cc] 25)).heap.size = w.heap.size + 1 := World.size_alloc ..
  have hl := hg.2.1
  have hl2 := hg.2.2.2.1
  go_enter Tryd.func98, Tryd.ntmps98
  go_wp2_with fail
  refine (HB.out _ (hD.out.below hal)).mono ?_
  rintro e w1 ⟨v1, rfl, o1, b1⟩
  rw [hs1] at o1 b1
  go_wp2
  go_loopw [3, 4] (fun b i wr => ∃ k : Nat, b = v1 ∧ i = .int .i64 k ∧ k ≤ d.2.length ∧ Buf wr (w.heap.size + 1) v1 (readK d k) ∧ Below (w.heap.size + 1) (w.alloc (.cells #[.slice ab d.1.length cb, .slice ac d.2.length cc] 25)) wr) (fun _ i _ => d.2.length - (intOf i).toNat)
  case atStart => exact ⟨0, rfl, rfl, Nat.zero_le _, by unfold readK; rw [List.take_zero]; exact o1, b1⟩
  case round =>
    obtain ⟨k, rfl, rfl, hk, hown, hbl⟩ := hrel
    have hkw : wr.heap[w.heap.size]? = some (.cells #[.slice ab d.1.length cb, .slice ac d.2.length cc] 25) := (hbl.block _ (by omega)).trans hk1
    have c0 := cell2_0 hkw
    have c1 := cell2_1 hkw
    have hbw : Below w.heap.size w wr := hal.trans (hbl.mono (by omega))
    by_cases hlt : k < d.2.length
    · have hlt' : decide ((k : Int) < d.2.length) = true := by simp; omega
      obtain ⟨a, rfl, q0, q1⟩ := hcc k hlt
      have hga := good_at hg hlt
      have hrs := readK_succ hlt
      have hrl := readK_length hg k
      obtain ⟨x, hx⟩ : ∃ x, x = d.2[k] := ⟨_, rfl⟩
      rw [← hx] at q0 q1 hga hrs
      obtain ⟨p, y⟩ := x
      dsimp only at q0 q1 hga hrs
      obtain ⟨hp0, hpf⟩ := hga
      obtain ⟨pn, rfl⟩ : ∃ pn : Nat, p = (pn : Int) := ⟨p.toNat, by omega⟩
      rw [Int.toNat_natCast] at hpf hrs
      have q0' := cell_below hbw q0
      have q1' := cell_next (cell_below hbw q1)
      have HL := Lib.hid (laidR_any (readK d k) y pn _ (w.heap.size + 1) wr.drew (Buf.drew hown) (by rw [hrl]; exact hpf) (by rw [hrl]; omega))
      rw [← hrs] at HL
      clear hx hrs q0 q1 hcc
      go_wp2
      go_still_tail 13, (by kernel_rfl)
      change wpList _ _ _ _ _ wr.drew
      go_wp2_with fail
      refine HL.out.mono ?_
      rintro e w2 ⟨rfl, o2, b2, _⟩
      all_goals go_wp2
      exact ⟨⟨k + 1, rfl, rfl, hlt, o2, hbl.drew.trans b2⟩, by simp [intOf]; omega⟩
    · obtain rfl : k = d.2.length := by omega
      have hlt' : decide ((d.2.length : Int) < d.2.length) = false := by simp
      rw [readK_all] at hown
      go_wp2
      go_ret
      exact ⟨_, rfl, hown.lower (by omega), hbw⟩

set_option maxHeartbeats 4000000 in
set_option maxRecDepth 100000 in
theorem RRead_any (d : Dev) (v : Value) (p n : Int) (w : World) (h : DiskIs w d v) :
    Calls Tryd.prog 76 #[v, .int .i64 p, .int .i64 n] w fun e w' => e = .returned (.tuple #[.string ⟨(readD d p n).1.toArray⟩, .int .i64 (readD d p n).2]) ∧ Below w.heap.size w w' := by
  have HC := Lib.hid (fun W h => RCheck_any d v W h)
  have HR := Lib.hid (fun W h hg => readR_any d v W h hg)
  have hD := Lib.hid h
  have hgd : (chk d).1 = 0 → Disk11.Good d := fun h => (chk_good d).1 (chk_ok h)
  obtain ⟨r, hr⟩ : ∃ r, r = readD d p n := ⟨_, rfl⟩
  rw [← hr]
  unfold readD at hr
  obtain ⟨c, hc⟩ : ∃ c, c = chk d := ⟨_, rfl⟩
  rw [← hc] at hr hgd HC
  clear hc
  obtain ⟨c1, c2⟩ := c
  dsimp only at hr hgd HC
  obtain ⟨ab, cb, ac, cc, rfl, _, _, _, _⟩ := h.form
  clear h
  have hal := Go.Joins.below_alloc1 w (.cells #[.slice ab d.1.length cb, .slice ac d.2.length cc] 25)
  have hk1 := World.alloc_heap_new w (.cells #[.slice ab d.1.length cb, .slice ac d.2.length cc] 25)
  by_cases h0 : c1 = 0
  · subst h0
    have hg := hgd rfl
    clear hgd
    rw [if_neg (by simp)] at hr
    have hl := hg.2.1
    have hsz0 : ((size d : Nat) : Int) = 64 * (d.1.length : Int) := by unfold Disk11.size; omega
    have hin := inside_iff (size d) p n
    have hra := readAll_length hg
    obtain ⟨ra, hrae⟩ : ∃ ra, ra = readAll d := ⟨_, rfl⟩
    rw [← hrae] at hr hra
    have HI := Lib.hid (fun W => within_any (size d) p n W (by rw [hsz0]; omega))
    obtain ⟨i, hi⟩ : ∃ i, i = inside (size d) p n := ⟨_, rfl⟩
    rw [← hi] at hr hin HI
    rw [hsz0] at HI hin
    have hHra := Lib.hid hrae
    clear hi hsz0 hrae
    go_enter Tryd.func76, Tryd.ntmps76
    go_wp2_with fail
    refine (HC.out _ (hD.out.below hal)).mono ?_
    rintro e w1 ⟨rfl, b1⟩
    have k1 := heap_below hk1 b1
    have hb1 := hal.trans (b1.mono hal.size)
    have c0 := cell2_0 k1
    have c1 := cell2_1 k1
    go_wp2_with fail
    refine (HI.out _).mono ?_
    rintro e w2 ⟨rfl, hw⟩
    subst w2
    cases i with
    | false =>
      rw [if_pos rfl] at hr
      subst hr
      clear hin
      go_wp2
      go_ret2
      exact ⟨rfl, hb1⟩
    | true =>
      rw [if_neg (by simp)] at hr
      obtain ⟨h1, h2, h3, h4⟩ := hin.1 rfl
      clear hin
      obtain ⟨pn, rfl⟩ : ∃ pn : Nat, p = (pn : Int) := ⟨p.toNat, by omega⟩
      obtain ⟨nn, rfl⟩ : ∃ nn : Nat, n = (nn : Int) := ⟨n.toNat, by omega⟩
      rw [Int.toNat_natCast, Int.toNat_natCast] at hr
      have hfit : pn + nn ≤ ra.length := by omega
      have hHr := Lib.hid hr
      clear hr h1 h2 h3 h4
      go_wp2_with fail
      refine (HR.out w1 (hD.out.below hb1) hg).mono ?_
      rintro e w2 ⟨v2, rfl, o2, b2⟩
      rw [← hHra.out] at o2
      obtain ⟨v3, hs3, hcv⟩ := slice_buf o2 pn nn hfit
      go_wp2
      have hr := hHr.out
      subst hr
      go_ret2
      exact ⟨rfl, hb1.trans (b2.mono hb1.size)⟩
  · have h0' : ((c1 : Int) == 0) = false := by simp; omega
    rw [if_pos h0] at hr
    subst hr
    clear h0 hgd
    go_enter Tryd.func76, Tryd.ntmps76
    go_wp2_with fail
    refine (HC.out _ (hD.out.below hal)).mono ?_
    rintro e w1 ⟨rfl, b1⟩
    go_wp2
    go_ret2
    exact ⟨rfl, hal.trans (b1.mono hal.size)⟩
end Go.Proofs.YthhghggaoljcbaaDoor
