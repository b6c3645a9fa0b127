/- A region that draws its order within the round of a loop over an iterator: it may be walked by the laws that stand outside of fences, if it ends as it should. -/
import Derived.Test.YtiemlaofhmncdaaProg
import Derived.StillTailTactics
import Derived.OrdersIn
import Derived.OrdersHeld
import Derived.TacticsIn
import Derived.RangeFuncCalls
namespace Go.Proofs.Ytiemlaofhmncdaa
open Go.RowKit

/-- It comes to its end. -/
def Only (K : Act → World → Prop) (e : Exit) (a : Act) (w : World) : Prop := e = .normal ∧ K a w
theorem wpIn_of_wp {l n : Nat} {P : Program} {o : Oper} {a : Act} {w : World} {K K1 K2 : Act → World → Prop} {Q : Exit → Act → World → Prop} (hd : ∀ c, o.op ≠ .defer c) (h : ∀ a w, K1 a w → K2 a w) (hh : o.wp P a w K1 (Only K)) :
    o.wpIn (Fence.wide.inRound l) n P a w K2 Q := by
  unfold Oper.wp at hh
  unfold Oper.wpIn
  refine ⟨fun _ _ => trivial, ?_⟩
  rw [Oper.semAt_eq _ _ _ hd]
  generalize (execOp a.eval o).run P w = r at *
  cases r with
  | ok x w' =>
    cases x <;> simp only [Oper.upon] at hh <;> simp only [Oper.uponIn]
    case enter f args =>
      refine ⟨fun h => (by cases h), CallsIn.inRound l (CallsIn.mono (callsIn_wide.2 hh) fun e w'' he => ?_)⟩
      cases e with
      | returned v => exact h _ _ he
      | panicked c => exact absurd he.1 (by simp)
      | outgrown => obtain ⟨_, _, he, _⟩ := he; exact absurd he (by simp)
    case row r args => exact ⟨fun h => (by cases h), fun c cs _ => let ⟨v, w2, q, s⟩ := hh c cs; ⟨v, w2, h _ _ q, stepsIn_wide.2 s⟩⟩
    all_goals exact h _ _ hh
  | halt x w' =>
    cases x <;> simp only [Oper.upon] at hh
    exact absurd hh.1 (by simp)

def noDefers (ops : List Oper) : Bool := ops.all fun o => match o.op with | .defer _ => false | _ => true
theorem noDefers_spec {ops : Array Oper} (h : noDefers ops.toList = true) {i : Nat} {o : Oper} (hi : ops[i]? = some o) : ∀ c, o.op ≠ .defer c := by
  intro c e
  have := List.all_eq_true.1 h o (by rw [← Array.getElem?_toList] at hi; exact List.mem_of_getElem? hi)
  rw [e] at this
  cases this

section
variable {l n : Nat} {P : Program} {md : Region.Mode} {ops : Array Oper}
theorem wpOpIn_of_wpOp (hd : noDefers ops.toList = true) {i : Nat} {a : Act} {w : World} {K K1 K2 : Act → World → Prop} {Q : Exit → Act → World → Prop} (h : ∀ a w, K1 a w → K2 a w) (hh : wpOp P ops (Only K) i K1 a w) :
    wpOpIn (Fence.wide.inRound l) n P ops Q i K2 a w := by
  unfold wpOp at hh
  unfold wpOpIn
  split
  · rename_i ho; simp only [ho] at hh; exact h _ _ hh
  · rename_i o ho
    simp only [ho] at hh
    split
    · rename_i hw
      simp only [hw, if_true] at hh
      rcases hh with hh | ⟨_, _, _, he, _⟩
      · exact wpIn_of_wp (noDefers_spec hd ho) h hh
      · exact absurd he (by simp)
    · rename_i hw; simp only [hw] at hh; exact ⟨fun _ _ => trivial, h _ _ hh⟩
theorem wpAnyIn_of_any (hd : noDefers ops.toList = true) {K : Act → World → Prop} {Q : Exit → Act → World → Prop} (hQ : ∀ a w, K a w → Q .normal a w) : ∀ (f : Nat) (listed : Array Bool) (a : Act) (w : World),
    wpAny P md ops (Only K) f listed a w → wpAnyIn (Fence.wide.inRound l) n P md ops Q f listed a w
  | 0, _, _, _, h => ⟨h.1, hQ _ _ h.2.2⟩
  | f + 1, _, _, _, h => ⟨fun h0 => hQ _ _ (h.1 h0).2, fun i hi => wpOpIn_of_wpOp hd (fun a' w' h' => wpAnyIn_of_any hd hQ f _ a' w' h') (h.2 i hi)⟩
/-- The region by the laws under a condition S that holds behind every operation. -/
theorem wpIn_region_held {id : Nat} {K : Act → World → Prop} {Q : Exit → Act → World → Prop} {a : Act} {w : World} (S : World → Prop) (hd : noDefers ops.toList = true) (hm : P.follows .mixedOrders = true) (hQ : ∀ a w, K a w → Q .normal a w)
    (h : wpAnyH P .any ops (Only K) S ops.size (Array.replicate ops.size false) a w.drew) : (Code.region id ops true).wpIn (Fence.wide.inRound l) n P Q a w :=
  wpIn_region_any hm (wpAnyIn_of_any hd hQ _ _ _ _ (wpAny_of_held _ _ _ _ h))
/-- An operation that yields its value in every world that meets S is taken first. -/
theorem heldTake {K : Act → World → Prop} {S : World → Prop} (i : Nat) (v : Value) {oi : Oper} {fuel : Nat} {listed : Array Bool} {a : Act} {w : World} (hi : ops[i]? = some oi)
    (hs : Region.noSelect ops = true) (hf : Region.free md ops listed i = true) (hr : (Region.ready md ops listed).contains i = true) (hg : oi.guard = none)
    (hv : ∀ V, S V → (execOp a.eval oi).run P V = .ok (.value v) V) (hS : S w)
    (h : wpAnyH P md ops (Only K) S fuel (listed.setIfInBounds i true) (a.put oi.dst v) w) : wpAnyH P md ops (Only K) S (fuel + 1) listed a w :=
  wpAnyH_take hi hs hf hr (fun _ _ _ h => absurd h.1 (by simp)) (.inl ⟨by simp [Region.wanted, hg], hv⟩) hS h
/-- The one operation that may come up. -/
theorem heldOne {K : Act → World → Prop} {S : World → Prop} (i : Nat) {oi : Oper} {fuel : Nat} {listed : Array Bool} {a : Act} {w w' : World} (hi : ops[i]? = some oi) (hr : Region.ready md ops listed = [i]) (hg : oi.guard = none)
    (hv : (execOp a.eval oi).run P w = .ok .skip w') (hS : S w')
    (h : wpAnyH P md ops (Only K) S fuel (listed.setIfInBounds i true) (a.put oi.dst undef) w') : wpAnyH P md ops (Only K) S (fuel + 1) listed a w := by
  refine wpAnyH_all hr (by simp) fun k hk => ?_
  obtain rfl : k = i := by simpa using hk
  unfold wpOp
  rw [hi]
  have hw : Region.wanted oi (yielded ops a.tmps) = true := by simp [Region.wanted, hg]
  simp only [hw, if_true]
  refine .inl ?_
  unfold Oper.wp
  rw [hv]
  exact ⟨hS, h⟩
end
end Go.Proofs.Ytiemlaofhmncdaa
