/- Words of our own that no program stands in: a region that reads, then acts, inside a fence; frames. -/
import Derived.WalkKit
import Derived.Below
import Derived.StillTailTactics
import Derived.OrdersIn
import Derived.TacticsInMore
import Derived.OwnWalkIn
namespace Go.Proofs.YtnaklnehichhpaaDoor
open Go.RowKit
set_option linter.unusedVariables false

section
variable {P : Program} {ops : Array Oper} {md : Region.Mode} {Q : Exit → Act → World → Prop}

/-- The fence that lets all by, within a round or not. -/
def wideAt (ro : Option Nat) : Fence := { Fence.wide with round := ro }

theorem wpOpIn_of_stOp {ro : Option Nat} {n i : Nat} {K : Act → Prop} {K' : Act → World → Prop} {a : Act} {w : World} (hd : ∀ o : Oper, ops[i]? = some o → ∀ c, o.op ≠ .defer c) (h : ∀ a, K a → K' a w) (hh : stOp P ops w i K a) :
    wpOpIn (wideAt ro) n P ops Q i K' a w := by
  unfold stOp at hh
  unfold wpOpIn
  cases ho : ops[i]? with
  | none => simp only [ho] at hh ⊢; exact h _ hh
  | some o =>
    simp only [ho] at hh ⊢
    by_cases hw : Region.wanted o (yielded ops a.tmps) = true
    · simp only [hw, if_true] at hh ⊢
      refine ⟨fun _ _ => trivial, ?_⟩
      have hs : o.semAt ro a.eval = execOp a.eval o := by
        cases ro with
        | none => rfl
        | some l => exact Oper.semAt_some l _ o (hd o ho)
      show o.uponIn (wideAt ro) n P a K' Q ((o.semAt ro a.eval).run P w)
      rw [hs]
      unfold Oper.still at hh
      generalize (execOp a.eval o).run P w = r at *
      cases r with
      | halt x w' => simp [Oper.stillUpon] at hh
      | ok x w' =>
        cases x with
        | value v => obtain ⟨rfl, hk⟩ := hh; exact h _ hk
        | skip => obtain ⟨rfl, hk⟩ := hh; exact h _ hk
        | enter f args =>
          obtain ⟨rfl, v, hc, hk⟩ := hh
          refine ⟨fun hx => by simp [wideAt, Fence.wide] at hx, ?_⟩
          have hc' : CallsIn Fence.wide (n - 1) P f args w' (fun e w'' => e = .returned v ∧ w'' = w') := callsIn_wide.2 hc
          refine CallsIn.mono (show CallsIn (wideAt ro) (n - 1) P f args w' (fun e w'' => e = .returned v ∧ w'' = w') from hc') ?_
          rintro e w'' ⟨rfl, rfl⟩
          exact h _ hk
        | defer d => simp [Oper.stillUpon] at hh
        | row r args => simp [Oper.stillUpon] at hh
        | round l f tmps assign body => simp [Oper.stillUpon] at hh
        | _ => simp [Oper.stillUpon] at hh
    · simp only [hw] at hh ⊢
      exact ⟨fun _ _ => trivial, h _ hh⟩

theorem wpAnyIn_of_head {ro : Option Nat} {m n g : Nat} {w : World} {L : Array Bool → Act → Prop} (hd : ∀ (i : Nat) (o : Oper), ops[i]? = some o → ∀ c, o.op ≠ .defer c) (hL : ∀ listed a, L listed a → wpAnyIn (wideAt ro) m P md ops Q g listed a w) :
    ∀ (f : Nat) (listed : Array Bool) (a : Act), wpAnyL P md ops w n L f listed a → wpAnyIn (wideAt ro) m P md ops Q (f + g) listed a w
  | 0, listed, a, h => by rw [Nat.zero_add]; exact hL _ _ h
  | f + 1, listed, a, h => by
    rw [show f + 1 + g = (f + g) + 1 by omega]
    exact ⟨fun h0 => absurd h0 h.1, fun i hi => wpOpIn_of_stOp (hd i) (fun a' h' => wpAnyIn_of_head hd hL f _ a' h') (h.2 i hi).2⟩

theorem wpAnyIn_of_seq {F : Fence} {m : Nat} : ∀ (l : List Oper) (k : Nat) (listed : Array Bool) (a : Act) (w : World), (∀ j, l[j]? = ops[k + j]?) →
    Region.seqB md ops l.length k listed = true → wpListIn F m P ops Q l a w → wpAnyIn F m P md ops Q l.length listed a w
  | [], _, _, _, _, _, hB, h => ⟨by simpa [Region.seqB] using hB, h⟩
  | o :: l, k, listed, a, w, hl, hB, h => by
    have h0 : ops[k]? = some o := by simpa using (hl 0).symm
    simp only [List.length_cons, Region.seqB, Bool.and_eq_true, decide_eq_true_eq] at hB
    refine ⟨fun h1 => (by rw [hB.1] at h1; cases h1), fun i hi => ?_⟩
    rw [hB.1] at hi
    have hik : i = k := by simpa using hi
    subst hik
    have hw : wpOpIn F m P ops Q i (wpListIn F m P ops Q l) a w := by unfold wpOpIn; simp only [h0]; exact h
    exact wpOpIn_mono (fun a' w' h' => wpAnyIn_of_seq l (i + 1) _ a' w' (fun j => by have := hl (j + 1); simpa [Nat.add_assoc, Nat.add_comm 1 j] using this) hB.2 h') hw

/-- Reads and quiet calls, then a forced tail, inside a fence that lets all by. -/
theorem wpIn_region_still_tail {ro : Option Nat} {m id : Nat} {a : Act} {w : World} {l : List Oper} (n : Nat) (hm : P.follows .mixedOrders = true) (hB : Region.lexTailB .any l.toArray n = true)
    (hd : (l.all fun o => match o.op with | .defer _ => false | _ => true) = true)
    (h : wpStill P l.toArray { w with drawn := w.drawn + 1 } (fun a' => wpListIn (wideAt ro) m P l.toArray Q (l.drop n) a' { w with drawn := w.drawn + 1 }) (l.take n) a) : (Code.region id l.toArray true).wpIn (wideAt ro) m P Q a w := by
  simp only [Region.lexTailB, Bool.and_eq_true, decide_eq_true_eq] at hB
  obtain ⟨⟨⟨⟨hsel, hn⟩, hs⟩, hc⟩, hlex⟩ := hB
  have hn' : n < l.length := by simpa using hn
  have htl : (l.take n).length = n := by simp; omega
  have hdl : (l.drop n).length = l.toArray.size - n := by simp
  have inv0 : HeadInv .any l.toArray n (Array.replicate l.toArray.size false) :=
    ⟨by simp, fun j oj _ hl => (by rw [getD_replicate_false] at hl; cases hl), fun t _ ht => getD_in (by simpa using ht) (getD_replicate_false _ _)⟩
  have hd' : ∀ (i : Nat) (o : Oper), l.toArray[i]? = some o → ∀ c, o.op ≠ .defer c := fun i o ho c hc' => by
    have hmem : o ∈ l := by
      have : l[i]? = some o := by simpa using ho
      exact List.mem_of_getElem? this
    have := List.all_eq_true.1 hd o hmem
    rw [hc'] at this
    cases this
  have H := wpAnyL_lex (md := .any) (g := l.toArray.size - n) hsel hs hc hn (l.take n) 0 _ a (fun j hj => by
    have hj' : j < n := by rw [htl] at hj; exact hj
    simp [hj']) (by simpa using htl) inv0 (by rw [htl]; exact hlex) h
  refine wpIn_region_any hm ?_
  have := wpAnyIn_of_head (Q := Q) (ro := ro) (m := m) (g := l.toArray.size - n) hd' (fun listed a' hL => by
    have := wpAnyIn_of_seq (md := .any) (Q := Q) (F := wideAt ro) (m := m) (l.drop n) n listed a' { w with drawn := w.drawn + 1 } (fun j => by simp [List.getElem?_drop]) (by rw [hdl]; exact hL.1) hL.2
    rwa [hdl] at this) _ _ _ H
  rw [htl, show n + (l.toArray.size - n) = l.toArray.size by omega] at this
  exact this
end
end Go.Proofs.YtnaklnehichhpaaDoor
