/- The reference's writer: what is in memory; Number, unary, put. -/
import Derived.Test.YtmjekkkpbcehoaaBo
namespace Go.Proofs.Ytmjekkkpbcehoaa.P
open Go.RowKit Go.Shelf Go.Proofs.Ytmjekkkpbcehoaa.Bits Go.Proofs.YtmjekkkpbcehoaaW.PrintWords Go.Proofs.YtmjekkkpbcehoaaW.PrintLast Go.Proofs.YtmjekkkpbcehoaaW.PrintMore
set_option linter.unusedVariables false
set_option linter.unusedSimpArgs false
attribute [local go_sem ↓] Go.wp_at_zero Go.wp_at_succ

/-- A writer of the reference at block p has the bits L, in blocks of S. -/
structure RWr (w : World) (S : Nat → Prop) (p : Nat) (L : List Int) : Prop where
  blk : ∃ v, w.heap[p]? = some (.cells #[v] 39 (0, 0)) ∧ RB S w v L
  bits : is01 L
  typed : ∀ k, S k → ∃ cells, w.heap[k]? = some (.cells cells 5 (0, 0))
def RWrTo (w : World) (S : Nat → Prop) (p : Nat) (L : List Int) (w' : World) : Prop := ∃ S', RWr w' S' p L ∧ (∀ k, S' k → S k ∨ w.heap.size ≤ k) ∧ Fr (fun k => k = p ∨ S k) w w'
theorem RWr.lt {w : World} {S : Nat → Prop} {p : Nat} {L : List Int} (h : RWr w S p L) (k : Nat) (hk : S k) : k < w.heap.size := by
  obtain ⟨cells, hc⟩ := h.typed k hk
  exact lt_of_block hc
theorem RWr.p_lt {w : World} {S : Nat → Prop} {p : Nat} {L : List Int} (h : RWr w S p L) : p < w.heap.size := by
  obtain ⟨v, hb, _⟩ := h.blk
  exact lt_of_block hb
theorem RWr.fr {w w' : World} {S T : Nat → Prop} {p : Nat} {L : List Int} (h : RWr w S p L) (hf : Fr T w w') (hp : ¬ T p) (hS : ∀ k, S k → ¬ T k) : RWr w' S p L := by
  obtain ⟨v, hb, hr⟩ := h.blk
  exact ⟨⟨v, blk_fr hb hf hp, R_fr hr hf (fun k hk _ => hS k hk)⟩, h.bits, fun k hk => by
    obtain ⟨cells, hc⟩ := h.typed k hk
    exact ⟨cells, blk_fr hc hf (hS k hk)⟩⟩
theorem RWr.below {w w' : World} {S : Nat → Prop} {p : Nat} {L : List Int} (h : RWr w S p L) (hb : Below w.heap.size w w') : RWr w' S p L := h.fr (Fr.below hb (fun _ => False)) (fun h => h) (fun _ _ h => h)
theorem RWr.wrTo {w w' : World} {S : Nat → Prop} {p : Nat} {L : List Int} (h : RWr w S p L) (hb : Below w.heap.size w w') : RWrTo w S p L w' := ⟨S, h.below hb, fun _ hk => .inl hk, Fr.below hb _⟩
theorem RWrTo.glue {w W1 W2 : World} {S S1 : Nat → Prop} {p : Nat} {L2 : List Int} (hs1 : ∀ k, S1 k → S k ∨ w.heap.size ≤ k) (f1 : Fr (fun k => k = p ∨ S k) w W1) (h2 : RWrTo W1 S1 p L2 W2) : RWrTo w S p L2 W2 := by
  obtain ⟨S2, k2, hs2, f2⟩ := h2
  refine ⟨S2, k2, fun i hi => ?_, f1.next f2 (fun i hi hT => ?_)⟩
  · rcases hs2 i hi with q | q
    · exact hs1 i q
    · exact .inr (Nat.le_trans f1.size q)
  · rcases hT with q | q
    · exact .inl q
    · rcases hs1 i q with q | q
      · exact .inr q
      · omega
/-- A row that came of another by append lies in the writer now. -/
theorem RWr.stored {w w1 : World} {S : Nat → Prop} {p n c : Nat} {A : Option Addr} {L L1 : List Int} {row : Option Nat} (h : RWr w S p L) (h01 : is01 L1) (hR : RB (fun k => S k ∨ w.heap.size ≤ k) w1 (.slice A n c) L1) (hg : w.grownBy w1 row) (hr : ∀ k, row = some k → S k) : RWrTo w S p L1 (w1.setCell ⟨p, 0, none⟩ (.slice A n c)) := by
  obtain ⟨v, hb, hrr⟩ := h.blk
  have hp1 : w1.heap[p]? = some (.cells #[v] 39 (0, 0)) := by
    refine blk_grown hb hg (fun e => ?_)
    obtain ⟨cells, hc⟩ := h.typed p (hr p e.symm)
    exact blk_ne hb hc (by decide) rfl
  have hR2 := Kd.R_bound (Kd.R_set (j := 0) (u := .slice A n c) hR hp1 (by simp [Kd.int, Kd.scalar]))
  refine ⟨fun k => (S k ∨ w.heap.size ≤ k) ∧ ∃ cells, (w1.setCell ⟨p, 0, none⟩ (.slice A n c)).heap[k]? = some (.cells cells 5 (0, 0)), ⟨⟨.slice A n c, one_setCell hp1, ?_⟩, h01, fun k hk => hk.2⟩, fun k hk => hk.1, ?_⟩
  · refine Kd.R_mono hR2 (fun k hk => ⟨hk.1, ?_⟩)
    obtain ⟨q, hq, cells, hc⟩ := hk.2.2.2
    obtain rfl : q = 5 := by simpa [Kd.int, Kd.scalar] using hq
    exact ⟨cells, hc⟩
  · exact ((Fr.refl _ _).grown hg (fun k _ e => .inr (hr k e))).setCell (p := ⟨p, 0, none⟩) (fun _ => .inl rfl) _

set_option maxHeartbeats 1000000 in
set_option maxRecDepth 100000 in
theorem RefPut_any (S : Nat → Prop) (p : Nat) (L M : List Int) (A : Option Addr) (m c : Nat) (w : World) (hW : RWr w S p L) (hC : Kd.C (Kd.int .u8) w A m M) (hM : is01 M) (hL : L.length ≤ 1048576) (hm : m ≤ 1000000000) :
    Calls Try.prog 73 #[.pointer (some ⟨p, 0, none⟩), .slice A m c] w fun e w' => e = .returned (.int .i64 (putE L M)) ∧ RWrTo w S p (putL L M) w' := by
  obtain ⟨v, hblk, hR⟩ := hW.blk
  obtain ⟨Av, cv, ev⟩ := Kd.R_slice hR
  subst ev
  have hml := C_len8 hC
  have c0 := cell_of_one hblk
  have fz := free_of_one hblk
  have HW := Aside0.mk hW
  have HR := Aside0.mk hR
  have HC := Aside0.mk hC
  have HM := Aside0.mk hM
  have HK := Aside0.mk hblk
  clear hW hR hC hM hblk
  by_cases ho : 1048576 < L.length + m
  · have HE : Aside0 (putE L M = 2) := ⟨by unfold putE; rw [if_pos (by omega)]⟩
    have HL : Aside0 (putL L M = L) := ⟨by unfold putL; rw [if_pos (by omega)]⟩
    have q1 : decide ((1048576 : Int) < (L.length : Int) + (m : Int)) = true := by simp; omega
    clear hml
    go_enter Try.func73, Try.ntmps73
    go_wp2_with fail
    go_ret
    rw [HE.out, HL.out]
    exact ⟨rfl, HW.out.wrTo (Below.refl _ _)⟩
  · have HE : Aside0 (putE L M = 0) := ⟨by unfold putE; rw [if_neg (by omega)]⟩
    have HL : Aside0 (putL L M = L ++ M) := ⟨by unfold putL; rw [if_neg (by omega)]⟩
    have q1 : decide ((1048576 : Int) < (L.length : Int) + (m : Int)) = false := by simp; omega
    clear hml
    go_enter Try.func73, Try.ntmps73
    go_wp2_with (at_builtin; refine Kd.R_append_row (Value.int .u8) (0 : Int) (w0 := w) 0 rfl (.tmp 18) (.tmp 19) 22 5 (.int .u8 0) 1 rfl Try.underlying22 binfo rfl (by decide) (.slice Av L.length cv) L M _ _ _ (fun k => S k ∨ w.heap.size ≤ k) rfl rfl (fun k hk => .inr hk) (Kd.R_mono HR.out (fun _ hk => .inl hk)) HC.out (Below.refl _ _) (Nat.zero_le _) (by omega) ?_; intro v1 w1 ho hb1 hg hat; obtain ⟨A1, k1, ev1⟩ := Kd.R_slice ho; subst ev1; have hbk := blk_grown HK.out hg (Kd.R_ne HR.out HK.out (by decide)); have d0 := cell_of_one hbk; have df := free_of_one hbk; have HO1 := Aside0.mk ho; have HG1 := Aside0.mk hg; clear ho hg hbk hat hb1)
    go_ret
    rw [HE.out, HL.out]
    refine ⟨rfl, ?_⟩
    have := HW.out.stored (is01_append HW.out.bits HM.out) HO1.out HG1.out (fun k hk => HR.out.1 k hk)
    simpa using this
end Go.Proofs.Ytmjekkkpbcehoaa.P
