/- The plain law of DiskTorn, chapter 11 (disk): what a crash can leave. -/
import Derived.Test.YtiemlaofhmncdaaDiskSy
namespace Go.Proofs.Ytiemlaofhmncdaa
open Go.RowKit Disk11

/-- A write has this byte at a place. -/
def cov (x : Wr) (p : Nat) (b : UInt8) : Bool := decide (x.1 ≤ (p : Int)) && (decide ((p : Int) < x.1 + x.2.length) && x.2[((p : Int) - x.1).toNat]? == some b)
theorem cov_of {x : Wr} {p : Nat} {b : UInt8} (h : Disk11.cover x p = some b) : cov x p b = true := by
  unfold Disk11.cover at h
  split at h
  · rename_i hc
    unfold cov
    rw [decide_eq_true hc.1, decide_eq_true hc.2, h]; simp
  · cases h
theorem look_some : ∀ (ws : List Wr) (p : Nat) (b : UInt8), Disk11.look ws p = some b → ∃ (j : Nat) (h : j < ws.length), Disk11.cover ws[j] p = some b
  | [], _, _, h => by simp [Disk11.look] at h
  | w :: ws, p, b, h => by
    rw [Disk11.look] at h
    cases hl : Disk11.look ws p with
    | some c =>
      rw [hl] at h
      obtain ⟨j, hj, hc⟩ := look_some ws p c hl
      simp at h
      exact ⟨j + 1, by simpa using hj, by rw [← h]; simpa using hc⟩
    | none =>
      rw [hl] at h
      exact ⟨0, by simp, by simpa using h⟩
theorem readK_get {d : Dev} (h : Disk11.Good d) (k p : Nat) : (readK d k)[p]? = (Disk11.look (d.2.take k) p).or d.1.flatten[p]? := by
  obtain ⟨_, _, hw, _, hc⟩ := h
  exact fold_get _ _ (fun w hw' => by
    rw [flatten_length hw]
    have := hc w (List.mem_of_mem_take hw')
    exact ⟨this.2.1, by have := this.2.2; unfold Disk11.size at this; omega⟩) p
/-- A byte is fine by the first q writes. -/
def fineAt (d : Dev) (p : Nat) (b b0 : UInt8) (q : Nat) : Bool := (b == b0) || (d.2.take q).any fun x => cov x p b
theorem fineAt_zero (d : Dev) (p : Nat) (b b0 : UInt8) : fineAt d p b b0 0 = (b == b0) := by unfold fineAt; simp
theorem fineAt_succ (d : Dev) (p : Nat) (b b0 : UInt8) (q : Nat) (h : q < d.2.length) : fineAt d p b b0 (q + 1) = (fineAt d p b b0 q || cov d.2[q] p b) := by
  unfold fineAt
  rw [List.take_succ_eq_append_getElem h, List.any_append]
  simp [Bool.or_assoc]
def tornB (d : Dev) (kp tn : Nat) : List UInt8 := layF (readK d kp) (nextD d kp).1.toNat ((nextD d kp).2.take tn)
theorem torn_fine {d : Dev} (h : Disk11.Good d) (kp tn p : Nat) (hk : kp ≤ d.2.length) (ht : tn ≤ (nextD d kp).2.length) (b b0 : UInt8) (hb : (tornB d kp tn)[p]? = some b) (h0 : d.1.flatten[p]? = some b0)
    (q : Nat) (hq : ¬ q < d.2.length ∨ ¬ q ≤ kp) : fineAt d p b b0 q = true := by
  have key : b = b0 ∨ ∃ (j : Nat) (hj : j < d.2.length), j ≤ kp ∧ cov d.2[j] p b = true := by
    have hl := crashB_len h kp tn hk
    have hrl := readK_length h kp
    unfold tornB at hb
    have hn : kp < d.2.length ∧ nextD d kp = (d.2[kp]?).getD (0, []) ∨ (nextD d kp) = (0, []) := by
      unfold nextD
      rcases Nat.lt_or_ge kp d.2.length with g | g
      · exact .inl ⟨g, rfl⟩
      · exact .inr (by rw [List.getElem?_eq_none g]; rfl)
    have elder : (readK d kp)[p]? = some b → b = b0 ∨ ∃ (j : Nat) (hj : j < d.2.length), j ≤ kp ∧ cov d.2[j] p b = true := by
      intro hr
      rw [readK_get h] at hr
      cases hlk : Disk11.look (d.2.take kp) p with
      | none => rw [hlk, h0] at hr; simp at hr; exact .inl hr.symm
      | some c =>
        rw [hlk] at hr
        simp at hr
        subst hr
        obtain ⟨j, hj, hc⟩ := look_some _ _ _ hlk
        have hj' : j < kp ∧ j < d.2.length := by simp at hj; omega
        refine .inr ⟨j, hj'.2, by omega, cov_of ?_⟩
        rw [List.getElem_take] at hc; exact hc
    rcases hn with ⟨g, e⟩ | e
    · rw [List.getElem?_eq_getElem g, Option.getD_some] at e
      have hg := h.2.2.2.2 _ (List.getElem_mem g)
      obtain ⟨_, g0, g1⟩ := hg
      unfold Disk11.size at g1
      rw [e] at hb ht hl
      have htl : (d.2[kp].2.take tn).length = tn := by rw [List.length_take]; omega
      rw [layF_get (by rw [htl, hrl]; omega), htl] at hb
      split at hb
      · rename_i hc
        refine .inr ⟨kp, g, Nat.le_refl _, ?_⟩
        rw [List.getElem?_take_of_lt (by omega)] at hb
        apply cov_of
        unfold Disk11.cover
        rw [if_pos (by omega)]
        rw [show ((p : Int) - d.2[kp].1).toNat = p - d.2[kp].1.toNat by omega]
        exact hb
      · exact elder hb
    · rw [e] at hb
      simp only [List.take_nil] at hb
      rw [layF_nil] at hb
      exact elder hb
  unfold fineAt
  rcases key with e | ⟨j, hj, hjk, hc⟩
  · rw [e]; simp
  · rw [Bool.or_eq_true]
    refine .inr (List.any_eq_true.2 ⟨d.2[j], ?_, hc⟩)
    rw [List.mem_take_iff_getElem]
    exact ⟨j, by omega, rfl⟩
end Go.Proofs.Ytiemlaofhmncdaa
