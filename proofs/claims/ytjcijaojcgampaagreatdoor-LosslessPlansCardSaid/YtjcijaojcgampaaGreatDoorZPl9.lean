/- Words of our own that no program stands in: a region that reads, then acts, inside a fence; frames. A region whose first operations read or call quietly: the world folded. A region that draws its order, by an invariant over the operations that are done: no order is gone through. -/
import Derived.WalkKit
import Derived.Below
import Derived.StillTailTactics
import Derived.OrdersIn
import Derived.TacticsInMore
import Derived.OwnWalkIn
set_option linter.unusedVariables false
set_option linter.unusedSimpArgs false
set_option maxHeartbeats 16000000
set_option maxRecDepth 100000
section
namespace Go.Proofs.YtjcijaojcgampaaGreatDoor
open Go.RowKit
section
variable {P : Program} {ops : Array Oper} {md : Region.Mode} {Q : Exit → Act → World → Prop}
def wideAt (ro : Option Nat) : Fence := { Fence.wide with round := ro }
theorem wpOpIn_of_stOp {ro : Option Nat} {n i : Nat} {K : Act → Prop} {K' : Act → World → Prop} {a : Act} {w : World} (hd : ∀ o : Oper, ops[i]? = some o → ∀ c, o.op ≠ .defer c) (h : ∀ a, K a → K' a w) (hh : stOp P ops w i K a) :
    wpOpIn (wideAt ro) n P ops Q i K' a w := by
  unfold stOp at hh
  unfold wpOpIn
  cases ho : ops[i]? with
  | none => simp only [ho] at hh ⊢; exact h _ hh
  | some o =>
    simp only [ho] at hh ⊢
    by_cases hw : Region.wanted o (yielded ops a.tmps) = true
    · simp only [hw, if_true] at hh ⊢
      refine ⟨fun _ _ => trivial, ?_⟩
      have hs : o.semAt ro a.eval = execOp a.eval o := by
        cases ro with
        | none => rfl
        | some l => exact Oper.semAt_some l _ o (hd o ho)
      show o.uponIn (wideAt ro) n P a K' Q ((o.semAt ro a.eval).run P w)
      rw [hs]
      unfold Oper.still at hh
      generalize (execOp a.eval o).run P w = r at *
      cases r with
      | halt x w' => simp [Oper.stillUpon] at hh
      | ok x w' =>
        cases x with
        | value v => obtain ⟨rfl, hk⟩ := hh; exact h _ hk
        | skip => obtain ⟨rfl, hk⟩ := hh; exact h _ hk
        | enter f args =>
          obtain ⟨rfl, v, hc, hk⟩ := hh
          refine ⟨fun hx => by simp [wideAt, Fence.wide] at hx, ?_⟩
          have hc' : CallsIn Fence.wide (n - 1) P f args w' (fun e w'' => e = .returned v ∧ w'' = w') := callsIn_wide.2 hc
          refine CallsIn.mono (show CallsIn (wideAt ro) (n - 1) P f args w' (fun e w'' => e = .returned v ∧ w'' = w') from hc') ?_
          rintro e w'' ⟨rfl, rfl⟩
          exact h _ hk
        | defer d => simp [Oper.stillUpon] at hh
        | row r args => simp [Oper.stillUpon] at hh
        | round l f tmps assign body => simp [Oper.stillUpon] at hh
        | _ => simp [Oper.stillUpon] at hh
    · simp only [hw] at hh ⊢
      exact ⟨fun _ _ => trivial, h _ hh⟩
theorem wpAnyIn_of_head {ro : Option Nat} {m n g : Nat} {w : World} {L : Array Bool → Act → Prop} (hd : ∀ (i : Nat) (o : Oper), ops[i]? = some o → ∀ c, o.op ≠ .defer c) (hL : ∀ listed a, L listed a → wpAnyIn (wideAt ro) m P md ops Q g listed a w) :
    ∀ (f : Nat) (listed : Array Bool) (a : Act), wpAnyL P md ops w n L f listed a → wpAnyIn (wideAt ro) m P md ops Q (f + g) listed a w
  | 0, listed, a, h => by rw [Nat.zero_add]; exact hL _ _ h
  | f + 1, listed, a, h => by
    rw [show f + 1 + g = (f + g) + 1 by omega]
    exact ⟨fun h0 => absurd h0 h.1, fun i hi => wpOpIn_of_stOp (hd i) (fun a' h' => wpAnyIn_of_head hd hL f _ a' h') (h.2 i hi).2⟩
theorem wpAnyIn_of_seq {F : Fence} {m : Nat} : ∀ (l : List Oper) (k : Nat) (listed : Array Bool) (a : Act) (w : World), (∀ j, l[j]? = ops[k + j]?) →
    Region.seqB md ops l.length k listed = true → wpListIn F m P ops Q l a w → wpAnyIn F m P md ops Q l.length listed a w
  | [], _, _, _, _, _, hB, h => ⟨by simpa [Region.seqB] using hB, h⟩
  | o :: l, k, listed, a, w, hl, hB, h => by
    have h0 : ops[k]? = some o := by simpa using (hl 0).symm
    simp only [List.length_cons, Region.seqB, Bool.and_eq_true, decide_eq_true_eq] at hB
    refine ⟨fun h1 => (by rw [hB.1] at h1; cases h1), fun i hi => ?_⟩
    rw [hB.1] at hi
    have hik : i = k := by simpa using hi
    subst hik
    have hw : wpOpIn F m P ops Q i (wpListIn F m P ops Q l) a w := by unfold wpOpIn; simp only [h0]; exact h
    exact wpOpIn_mono (fun a' w' h' => wpAnyIn_of_seq l (i + 1) _ a' w' (fun j => by have := hl (j + 1); simpa [Nat.add_assoc, Nat.add_comm 1 j] using this) hB.2 h') hw
theorem wpIn_region_still_tail {ro : Option Nat} {m id : Nat} {a : Act} {w : World} {l : List Oper} (n : Nat) (hm : P.follows .mixedOrders = true) (hB : Region.lexTailB .any l.toArray n = true)
    (hd : (l.all fun o => match o.op with | .defer _ => false | _ => true) = true)
    (h : wpStill P l.toArray { w with drawn := w.drawn + 1 } (fun a' => wpListIn (wideAt ro) m P l.toArray Q (l.drop n) a' { w with drawn := w.drawn + 1 }) (l.take n) a) : (Code.region id l.toArray true).wpIn (wideAt ro) m P Q a w := by
  simp only [Region.lexTailB, Bool.and_eq_true, decide_eq_true_eq] at hB
  obtain ⟨⟨⟨⟨hsel, hn⟩, hs⟩, hc⟩, hlex⟩ := hB
  have hn' : n < l.length := by simpa using hn
  have htl : (l.take n).length = n := by simp; omega
  have hdl : (l.drop n).length = l.toArray.size - n := by simp
  have inv0 : HeadInv .any l.toArray n (Array.replicate l.toArray.size false) :=
    ⟨by simp, fun j oj _ hl => (by rw [getD_replicate_false] at hl; cases hl), fun t _ ht => getD_in (by simpa using ht) (getD_replicate_false _ _)⟩
  have hd' : ∀ (i : Nat) (o : Oper), l.toArray[i]? = some o → ∀ c, o.op ≠ .defer c := fun i o ho c hc' => by
    have hmem : o ∈ l := by
      have : l[i]? = some o := by simpa using ho
      exact List.mem_of_getElem? this
    have := List.all_eq_true.1 hd o hmem
    rw [hc'] at this
    cases this
  have H := wpAnyL_lex (md := .any) (g := l.toArray.size - n) hsel hs hc hn (l.take n) 0 _ a (fun j hj => by
    have hj' : j < n := by rw [htl] at hj; exact hj
    simp [hj']) (by simpa using htl) inv0 (by rw [htl]; exact hlex) h
  refine wpIn_region_any hm ?_
  have := wpAnyIn_of_head (Q := Q) (ro := ro) (m := m) (g := l.toArray.size - n) hd' (fun listed a' hL => by
    have := wpAnyIn_of_seq (md := .any) (Q := Q) (F := wideAt ro) (m := m) (l.drop n) n listed a' { w with drawn := w.drawn + 1 } (fun j => by simp [List.getElem?_drop]) (by rw [hdl]; exact hL.1) hL.2
    rwa [hdl] at this) _ _ _ H
  rw [htl, show n + (l.toArray.size - n) = l.toArray.size by omega] at this
  exact this
end
end Go.Proofs.YtjcijaojcgampaaGreatDoor
end
section
namespace Go.Proofs.YtjcijaojcgampaaGreatDoor
theorem wp_still {P : Program} {id : Nat} {Q : Exit → Act → World → Prop} {a : Act} {w : World} {l : List Oper} (n : Nat) (hm : P.follows .mixedOrders = true) (hB : Region.lexTailB .any l.toArray n = true)
    (h : wpStill P l.toArray w.drew (fun a' => wpList P l.toArray Q (l.drop n) a' w.drew) (l.take n) a) : (Code.region id l.toArray true).wp P Q a w := wp_region_still_tail n hm hB h
end Go.Proofs.YtjcijaojcgampaaGreatDoor
end
section
namespace Go.Proofs.YtjcijaojcgampaaGreatDoor
open Go.RowKit
def left (n : Nat) (listed : Array Bool) : Nat := (List.range n).countP fun i => !listed.getD i true
theorem countP_lt {α : Type} {p q : α → Bool} : ∀ (l : List α), (∀ x ∈ l, q x = true → p x = true) → (∃ x ∈ l, p x = true ∧ q x = false) → l.countP q + 1 ≤ l.countP p
  | [], _, h => by obtain ⟨x, hx, _⟩ := h; cases hx
  | y :: l, hall, h => by
    have hle : l.countP q ≤ l.countP p := List.countP_mono_left (fun x hx hq => hall x (List.mem_cons_of_mem _ hx) hq)
    obtain ⟨x, hx, hp, hq⟩ := h
    rw [List.countP_cons, List.countP_cons]
    rcases List.mem_cons.1 hx with rfl | hx
    · simp [hp, hq]; omega
    · have ih := countP_lt l (fun z hz => hall z (List.mem_cons_of_mem _ hz)) ⟨x, hx, hp, hq⟩
      have := hall y (List.mem_cons_self)
      cases hqy : q y
      · simp; split <;> omega
      · simp [this hqy]; omega
theorem left_set {n i : Nat} {listed : Array Bool} (hn : listed.size = n) (hi : i < n) (hf : listed.getD i true = false) : left n (listed.setIfInBounds i true) + 1 ≤ left n listed := by
  unfold left
  refine countP_lt _ (fun x hx hq => ?_) ⟨i, List.mem_range.2 hi, by simp [hf], by simp [Array.getD_eq_getD_getElem?, Array.getElem?_setIfInBounds, hn, hi]⟩
  have hxn := List.mem_range.1 hx
  by_cases hxi : x = i
  · subst hxi; simp [Array.getD_eq_getD_getElem?, Array.getElem?_setIfInBounds, hn, hi] at hq
  · simpa [Array.getD_eq_getD_getElem?, Array.getElem?_setIfInBounds, Ne.symm hxi] using hq
theorem left_zero {n : Nat} {listed : Array Bool} (h : left n listed = 0) : ∀ i, i < n → listed.getD i true = true := by
  intro i hi
  have := (List.countP_eq_zero.1 h) i (List.mem_range.2 hi)
  simpa using this
theorem ready_ne {ops : Array Oper} {listed : Array Bool} (hn : listed.size = ops.size) (hdag : ∀ (i : Nat) (o : Oper), ops[i]? = some o → ∀ e ∈ o.after, e.on < i) (h : left ops.size listed ≠ 0) : Region.ready .any ops listed ≠ [] := by
  have hex : ∃ i, i < ops.size ∧ listed.getD i true = false := by
    obtain ⟨x, hx, hp⟩ := List.countP_pos_iff.1 (Nat.pos_of_ne_zero h)
    exact ⟨x, List.mem_range.1 hx, by simpa using hp⟩
  have hmin : ∀ m, (∃ i, i < m ∧ i < ops.size ∧ listed.getD i true = false) → ∃ i, i < ops.size ∧ listed.getD i true = false ∧ ∀ j, j < i → listed.getD j true = true := by
    intro m
    induction m with
    | zero => rintro ⟨i, hi, _⟩; omega
    | succ m ih =>
      rintro ⟨i, hi, hs, hf⟩
      by_cases hc : ∃ i, i < m ∧ i < ops.size ∧ listed.getD i true = false
      · exact ih hc
      · refine ⟨i, hs, hf, fun j hj => ?_⟩
        cases hjf : listed.getD j true
        · exact absurd ⟨j, by omega, by omega, hjf⟩ hc
        · rfl
  obtain ⟨i0, hi0, hf0⟩ := hex
  obtain ⟨i, hi, hf, hall⟩ := hmin (i0 + 1) ⟨i0, by omega, hi0, hf0⟩
  intro hr
  have hmem : i ∈ Region.ready .any ops listed := by
    unfold Region.ready
    rw [List.mem_filter]
    refine ⟨List.mem_range.2 hi, ?_⟩
    rw [hf, Array.getElem?_eq_getElem hi]
    simp only [Bool.not_false, Option.map_some, Option.getD_some, Bool.true_and, Array.all_eq_true]
    intro k hk
    have h1 := hdag i _ (Array.getElem?_eq_getElem hi) _ (Array.getElem_mem hk)
    have h2 := hall _ h1
    simp only [Bool.or_eq_true]
    right
    have h3 : (ops[i].after[k]).on < listed.size := by rw [hn]; omega
    simpa [Array.getD_eq_getD_getElem?, Array.getElem?_eq_getElem h3] using h2
  rw [hr] at hmem
  cases hmem
theorem ready_spec {ops : Array Oper} {listed : Array Bool} {i : Nat} (h : i ∈ Region.ready .any ops listed) : ∃ o, ops[i]? = some o ∧ listed.getD i true = false ∧ ∀ e ∈ o.after, Region.binds .any e = true → listed.getD e.on false = true := by
  unfold Region.ready at h
  rw [List.mem_filter] at h
  obtain ⟨h1, h2⟩ := h
  have hi := List.mem_range.1 h1
  rw [Array.getElem?_eq_getElem hi] at h2
  simp only [Option.map_some, Option.getD_some, Bool.and_eq_true, Bool.not_eq_true'] at h2
  refine ⟨_, Array.getElem?_eq_getElem hi, h2.1, fun e he hb => ?_⟩
  have := (Array.all_eq_true'.1 h2.2) e he
  simpa [hb] using this
section
variable {P : Program} {Q : Exit → Act → World → Prop}
theorem wpAny_of_inv {ops : Array Oper} (Inv : Array Bool → Act → World → Prop) (hdag : ∀ (i : Nat) (o : Oper), ops[i]? = some o → ∀ e ∈ o.after, e.on < i)
    (hstep : ∀ (i : Nat) (o : Oper) (listed : Array Bool) (a : Act) (w : World), ops[i]? = some o → listed.size = ops.size → listed.getD i true = false → (∀ e ∈ o.after, Region.binds .any e = true → listed.getD e.on false = true) → Inv listed a w →
      wpOp P ops Q i (fun a' w' => Inv (listed.setIfInBounds i true) a' w') a w)
    (hend : ∀ (listed : Array Bool) (a : Act) (w : World), listed.size = ops.size → (∀ i, i < ops.size → listed.getD i true = true) → Inv listed a w → Q .normal a w) :
    ∀ (fuel : Nat) (listed : Array Bool) (a : Act) (w : World), listed.size = ops.size → left ops.size listed ≤ fuel → Inv listed a w → wpAny P .any ops Q fuel listed a w
  | 0, listed, a, w, hs, hl, hi => by
    have hall := left_zero (Nat.le_zero.1 hl)
    refine ⟨?_, hend listed a w hs hall hi⟩
    rcases hr : Region.ready .any ops listed with _ | ⟨i, rest⟩
    · rfl
    · obtain ⟨o, ho, hf, _⟩ := ready_spec (show i ∈ Region.ready .any ops listed by rw [hr]; exact List.mem_cons_self)
      have : i < ops.size := (Array.getElem?_eq_some_iff.1 ho).1
      rw [hall i this] at hf
      cases hf
  | fuel + 1, listed, a, w, hs, hl, hi => by
    refine ⟨fun hr => ?_, fun i hir => ?_⟩
    · by_cases hz : left ops.size listed = 0
      · exact hend listed a w hs (left_zero hz) hi
      · exact absurd hr (ready_ne hs hdag hz)
    · obtain ⟨o, ho, hf, he⟩ := ready_spec hir
      have hio : i < ops.size := (Array.getElem?_eq_some_iff.1 ho).1
      refine wpOp_mono (fun a' w' h' => ?_) (hstep i o listed a w ho hs hf he hi)
      have := left_set hs hio hf
      exact wpAny_of_inv Inv hdag hstep hend fuel _ a' w' (by simpa using hs) (by omega) h'
def dagB (l : List Oper) : Bool := (List.range l.length).all fun i => match l[i]? with | some o => o.after.all fun e => decide (e.on < i) | none => true
theorem dagB_spec {l : List Oper} (h : dagB l = true) : ∀ (i : Nat) (o : Oper), l.toArray[i]? = some o → ∀ e ∈ o.after, e.on < i := by
  intro i o ho e he
  have hio : i < l.length := by simpa using (Array.getElem?_eq_some_iff.1 ho).1
  have h1 := List.all_eq_true.1 h i (List.mem_range.2 hio)
  have h2 : l[i]? = some o := by simpa using ho
  rw [h2] at h1
  have := Array.all_eq_true'.1 h1 e he
  simpa using this
theorem wp_region_inv {id : Nat} {a : Act} {w : World} {l : List Oper} (hm : P.follows .mixedOrders = true) (Inv : Array Bool → Act → World → Prop) (hdag : dagB l = true)
    (h0 : Inv (Array.replicate l.length false) a w.drew)
    (hstep : ∀ (i : Nat) (o : Oper) (listed : Array Bool) (a : Act) (w : World), l[i]? = some o → listed.size = l.length → listed.getD i true = false → (∀ e ∈ o.after, Region.binds .any e = true → listed.getD e.on false = true) → Inv listed a w →
      wpOp P l.toArray Q i (fun a' w' => Inv (listed.setIfInBounds i true) a' w') a w)
    (hend : ∀ (listed : Array Bool) (a : Act) (w : World), listed.size = l.length → (∀ i, i < l.length → listed.getD i true = true) → Inv listed a w → Q .normal a w) : (Code.region id l.toArray true).wp P Q a w := by
  refine wp_region_any hm ?_
  refine wpAny_of_inv Inv (dagB_spec hdag) (fun i o listed a w ho hs hf he hi => hstep i o listed a w (by simpa using ho) (by simpa using hs) hf he hi)
    (fun listed a w hs hall hi => hend listed a w (by simpa using hs) (by simpa using hall) hi) _ _ _ _ (by simp) ?_ (by simpa using h0)
  unfold left
  have := List.countP_le_length (p := fun i => !(Array.replicate l.toArray.size false).getD i true) (l := List.range l.toArray.size)
  rwa [List.length_range] at this
end
end Go.Proofs.YtjcijaojcgampaaGreatDoor
end
