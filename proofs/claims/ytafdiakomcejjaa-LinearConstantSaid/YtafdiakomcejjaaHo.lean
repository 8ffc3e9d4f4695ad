/- The contracts of linear.Residual and linear.Restore. -/
import Derived.Test.YtafdiakomcejjaaHn
namespace Go.Proofs.Ytafdiakomcejjaa.P
open Go.RowKit Go.Shelf Go.Proofs.YtafdiakomcejjaaW.PrintWords Go.Proofs.YtafdiakomcejjaaW.PrintLast Go.Proofs.YtafdiakomcejjaaW.PrintMore
set_option linter.unusedVariables false
set_option linter.unusedSimpArgs false
attribute [local go_sem ↓] Go.wp_at_zero Go.wp_at_succ

/-- What is not predicted. -/
def resid (p x : List Int) : List Int := (List.range x.length).map fun (n : Nat) => rd x (n : Int) - pred p x n
theorem resid_take (p x : List Int) (k : Nat) (h : k < x.length) : (resid p x).take (k + 1) = (resid p x).take k ++ [rd x (k : Int) - pred p x k] := by
  rw [List.take_add_one]
  simp [resid, h]
theorem resid_length (p x : List Int) : (resid p x).length = x.length := by simp [resid]

def linear_Residual.f (l0 l1 : List Int) : Option (List Int × Int) :=
  if l0.length ≤ 9223372036854775807 ∧ l1.length ≤ 9223372036854775807 then
    (if isF l1 = false then some ([], 1) else if chk l0 2097152 = 0 then some (resid (wts l1) l0, 0) else some ([], chk l0 2097152))
  else none

set_option maxHeartbeats 2000000 in
set_option maxRecDepth 100000 in
theorem residual_yes (A0 : Option Addr) (c0 : Nat) (l0 : List Int) (A1 : Option Addr) (c1 : Nat) (l1 : List Int) (w : World) (hr0 : Kd.C (Kd.int .i64) w A0 l0.length l0) (hc0 : l0.length ≤ c0) (hr1 : Kd.C (Kd.int .i64) w A1 l1.length l1) (hc1 : l1.length ≤ c1) (hf : isF l1 = true) (hz : chk l0 2097152 = 0) :
    Calls Try.prog 22 #[.slice A0 l0.length c0, .slice A1 l1.length c1] w fun e w' => ∃ v0_ : Value, e = .returned (.tuple #[v0_, .int .i64 0]) ∧ Kd.R (Kd.int .i64) 3 w' w.heap.size (fun _ => True) v0_ (resid (wts l1) l0) ∧ Below w.heap.size w w' := by
  obtain ⟨hlen, hwi⟩ := chk_zero hz
  obtain ⟨hW, hWb, hWl⟩ := isF_wts hf
  have hl1 := (isF_within hf).1
  have HR := Aside0.mk hr0
  have HR1 := Aside0.mk hr1
  have HZ := Aside0.mk hz
  have HF := Aside0.mk hf
  have HW := Aside0.mk hwi
  have HWT := Aside0.mk hW
  have HWB := Aside0.mk (within_mono hWb (show (16646144 : Int) ≤ 16777216 by omega))
  have HWL := Aside0.mk hWl
  obtain ⟨p, hp⟩ : ∃ p, p = wts l1 := ⟨_, rfl⟩
  rw [← hp] at HWT HWB HWL
  have HPP := Aside0.mk hp
  clear hr0 hr1 hz hf hwi hW hWb hWl hp
  have B0 := Aside0.mk (Below.refl w.heap.size w)
  go_enter Try.func22, Try.ntmps22
  go_wp2_with (first
    | (go_at_call 33; refine (linear_isFilter.calls A1 c1 l1 true _ HR1.out hc1 (by unfold linear_isFilter.f; rw [HF.out])).mono ?_; rintro e w1 ⟨rfl, hb1⟩; have HB1 := Aside0.mk hb1.below; clear hb1)
    | (go_at_call 26; refine (linear_check.calls A0 c0 l0 2097152 0 _ (Kd.C_below HR.out HB1.out) hc0 (by unfold linear_check.f; rw [if_pos (by omega), HZ.out])).mono ?_; rintro e w2 ⟨rfl, hb2⟩; have HB2 := Aside0.mk (below_step HB1.out hb2); clear hb2)
    | (go_at_call 34; refine (linear_weights.calls A1 c1 l1 _ _ (Kd.C_below HR1.out HB2.out) hc1 HWT.out).mono ?_; rintro e w3 ⟨v3, rfl, ho3, hb3⟩; obtain ⟨A3, c3, hv3, hc3, hC3⟩ := Kd.R_reads ho3; cases hv3; have HO3 := Aside0.mk ho3; have HB3 := Aside0.mk (below_step HB2.out hb3); have HL3 := Aside0.mk hc3; clear ho3 hb3 hC3 hc3))
  have HR3 := Aside0.mk (Kd.C_below HR.out HB3.out)
  obtain ⟨A3', c3', e3, hc3', hC3'⟩ := Kd.R_reads HO3.out
  cases e3
  have HP3 := Aside0.mk hC3'
  clear hC3'
  go_loopw [8, 9, 10, 24] (fun v _ _ u wr => ∃ k : Nat, k ≤ l0.length ∧ u = .int .i64 k ∧ Aside0 (Kd.R (Kd.int .i64) 3 wr w3.heap.size (fun _ => True) v ((resid p l0).take k)) ∧ Aside0 (Below w3.heap.size w3 wr)) (fun _ _ _ u _ => l0.length - (intOf u).toNat)
  case atStart => exact ⟨0, Nat.zero_le _, rfl, ⟨by simpa using Kd.R_nil _ _ _ _ _⟩, ⟨Below.refl _ _⟩⟩
  case round =>
    obtain ⟨k, hk, rfl, HO, HB⟩ := hrel
    obtain ⟨Av, cv, hv, hcv, hCv⟩ := Kd.R_reads HO.out
    rw [List.length_take, resid_length, Nat.min_eq_left hk] at hv hcv hCv
    cases hv
    clear hCv
    by_cases hlt : k < l0.length
    · have HT := Aside0.mk (resid_take p l0 k hlt)
      have HLk := Aside0.mk (show ((resid p l0).take k).length = k by rw [List.length_take, resid_length]; omega)
      have hsz := HB.out.size
      obtain ⟨ad, e, hx⟩ := Kd.at_int (Kd.C_below HR3.out HB.out) (k : Int) (by omega) (by omega)
      cases e
      rw [Int.toNat_natCast] at hx
      have bx := within_rd HW.out (by omega) (k : Int)
      have bp := pred_bound HWB.out HW.out k (by have := HWL.out; omega)
      obtain ⟨x, hxx⟩ : ∃ x, x = rd l0 (k : Int) := ⟨_, rfl⟩
      rw [← hxx] at hx bx HT
      obtain ⟨y, hyy⟩ : ∃ y, y = pred p l0 k := ⟨_, rfl⟩
      rw [← hyy] at bp HT
      have HY := Aside0.mk hyy
      have i1 : (0 : Int) ≤ (k : Int) := by omega
      have i2 : (k : Int) < (l0.length : Int) := by omega
      have w1' : IntKind.i64.wrap (x - y) = x - y := IntWalk.i64_in _ (by omega)
      clear hxx hyy
      go_wp2_with (first
        | (go_at_call 38; have hq := at_any A3 _ c3 c0 p l0 k _ (Kd.C_below HP3.out HB.out) (Kd.C_below HR3.out HB.out) HWB.out HW.out (by have := HWL.out; omega) hk; rw [← HY.out] at hq; refine hq.mono ?_; clear hq; rintro e w9 ⟨rfl, rfl⟩)
        | (at_builtin; refine Kd.R_append (Kd.int .i64) (w0 := w3) w3.heap.size rfl (.tmp 29) (.tmp 36) 22 3 (.int .i64 0) 8 rfl Try.underlying22 hinfo3 rfl (by decide) (by omega) _ ((resid p l0).take k) (x - y) [.int .i64 (x - y)] (fun _ => True) (fun _ => False) rfl rfl rfl (fun _ hk => hk.elim) (fun _ _ => trivial) HO.out HB.out HB.out.size (by rw [HLk.out]; omega) ?_; intro v9 w9 ho hb hg hat; rw [← HT.out] at ho; have HO9 := Aside0.mk ho; have HB9 := Aside0.mk hb; clear ho hb hg hat))
      go_roundw
      case rel => exact ⟨k + 1, by omega, by go_num, HO9, HB9⟩
      case measure => simp [intOf]; omega
    · obtain rfl : k = l0.length := by omega
      go_wp2
      go_ret2
      have h1 := HO.out
      rw [List.take_of_length_le (by rw [resid_length]; exact Nat.le_refl _), HPP.out] at h1
      exact ⟨_, rfl, Kd.R_lower h1 (below_size HB3.out), below_step HB3.out HB.out⟩

set_option maxHeartbeats 1000000 in
theorem linear_Residual.calls (A0 : Option Addr) (c0 : Nat) (l0 : List Int) (A1 : Option Addr) (c1 : Nat) (l1 : List Int) (r1 : List Int) (r2 : Int) (w : World) (hr0 : Kd.C (Kd.int .i64) w A0 l0.length l0) (hc0 : l0.length ≤ c0) (hr1 : Kd.C (Kd.int .i64) w A1 l1.length l1) (hc1 : l1.length ≤ c1) (h : linear_Residual.f l0 l1 = some (r1, r2)) :
    Calls Try.prog 22 #[.slice A0 l0.length c0, .slice A1 l1.length c1] w fun e w' => ∃ v0_ : Value, e = .returned (.tuple #[v0_, .int .i64 r2]) ∧ Kd.R (Kd.int .i64) 3 w' w.heap.size (fun _ => True) v0_ r1 ∧ Below w.heap.size w w' := by
  unfold linear_Residual.f at h
  split at h
  · rename_i hl
    split at h
    · rename_i hf
      simp only [Option.some.injEq, Prod.mk.injEq] at h
      obtain ⟨rfl, rfl⟩ := h
      have HR1 := Aside0.mk hr1
      have HF := Aside0.mk hf
      clear hr0 hr1 hf
      go_enter Try.func22, Try.ntmps22
      go_wp2_with (go_at_call 33; refine (linear_isFilter.calls A1 c1 l1 false _ HR1.out hc1 (by unfold linear_isFilter.f; rw [HF.out])).mono ?_; rintro e w1 ⟨rfl, hb1⟩; have HB1 := Aside0.mk hb1.below; clear hb1)
      go_ret2
      exact ⟨_, rfl, Kd.R_nil _ _ _ _ _, HB1.out⟩
    · rename_i hf
      have hf : isF l1 = true := by cases hq : isF l1 with
        | true => rfl
        | false => exact absurd hq hf
      split at h
      · rename_i hz
        simp only [Option.some.injEq, Prod.mk.injEq] at h
        obtain ⟨rfl, rfl⟩ := h
        exact residual_yes A0 c0 l0 A1 c1 l1 w hr0 hc0 hr1 hc1 hf hz
      · rename_i hz
        simp only [Option.some.injEq, Prod.mk.injEq] at h
        obtain ⟨rfl, rfl⟩ := h
        have HR := Aside0.mk hr0
        have HR1 := Aside0.mk hr1
        have HF := Aside0.mk hf
        clear hr0 hr1 hf
        obtain ⟨q, hq⟩ : ∃ q, q = chk l0 2097152 := ⟨_, rfl⟩
        rw [← hq] at hz ⊢
        have HQ := Aside0.mk hq
        clear hq
        have hz1 : (q != 0) = true := by simpa using hz
        have hz2 : (q == 0) = false := by simpa using hz
        go_enter Try.func22, Try.ntmps22
        go_wp2_with (first
          | (go_at_call 33; refine (linear_isFilter.calls A1 c1 l1 true _ HR1.out hc1 (by unfold linear_isFilter.f; rw [HF.out])).mono ?_; rintro e w1 ⟨rfl, hb1⟩; have HB1 := Aside0.mk hb1.below; clear hb1)
          | (go_at_call 26; refine (linear_check.calls A0 c0 l0 2097152 q _ (Kd.C_below HR.out HB1.out) hc0 (by unfold linear_check.f; rw [if_pos (by omega), HQ.out])).mono ?_; rintro e w2 ⟨rfl, hb2⟩; have HB2 := Aside0.mk (below_step HB1.out hb2); clear hb2))
        go_ret2
        exact ⟨_, rfl, Kd.R_nil _ _ _ _ _, HB2.out⟩
  · cases h
end Go.Proofs.Ytafdiakomcejjaa.P
