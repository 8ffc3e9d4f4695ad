/- The contract of linear.Restore. -/
import Derived.Test.YtafdiakomcejjaaHo
import Derived.Test.YtafdiakomcejjaaHk
namespace Go.Proofs.Ytafdiakomcejjaa.P
open Go.RowKit Go.Shelf Go.Proofs.YtafdiakomcejjaaW.PrintWords Go.Proofs.YtafdiakomcejjaaW.PrintLast Go.Proofs.YtafdiakomcejjaaW.PrintMore
set_option linter.unusedVariables false
set_option linter.unusedSimpArgs false
attribute [local go_sem ↓] Go.wp_at_zero Go.wp_at_succ

/-- The list of a residual, from its first elements on. -/
def restF (p : List Int) : List Int → List Int → Option (List Int)
  | out, [] => some out
  | out, v :: d => if v + pred p out out.length < -2097152 ∨ 2097152 < v + pred p out out.length then none else restF p (out ++ [v + pred p out out.length]) d

def linear_Restore.f (l0 l1 : List Int) : Option (List Int × Int) :=
  if l0.length ≤ 9223372036854775807 ∧ l1.length ≤ 9223372036854775807 then
    (if isF l1 = false then some ([], 1) else if chk l0 1099511627776 = 0 then (match restF (wts l1) [] l0 with | some l => some (l, 0) | none => some ([], 6)) else some ([], chk l0 1099511627776))
  else none

theorem made_cap (m : Nat) (hm : m ≤ 1000000) : ∀ W : World, (Instr.makeSlice 22 (.int .i64 0) (.int .i64 (m : Int))).run Try.prog W = .ok (.slice (some ⟨W.heap.size, 0, none⟩) 0 m) (W.alloc (.cells (madeCells #[.int .i64 0] m) 3)) := by
  intro W
  obtain ⟨i0, hi, hzz⟩ := Option.map_eq_some_iff.1 hinfo3
  simp only [Prod.mk.injEq] at hzz
  have hr := Go.run_make (P := Try.prog) (w := W) 22 3 i0 (.int .i64 0) Try.underlying22 hi hzz.1 .i64 .i64 0 (m : Int) (by omega) (by omega) (by rw [hzz.2.2]; omega) (by omega)
  rw [hr, hzz.2.1]
  simp [Value.cells]

set_option maxHeartbeats 2000000 in
set_option maxRecDepth 100000 in
theorem restore_yes (A0 : Option Addr) (c0 : Nat) (l0 : List Int) (A1 : Option Addr) (c1 : Nat) (l1 : List Int) (w : World) (r1 : List Int) (r2 : Int) (hr0 : Kd.C (Kd.int .i64) w A0 l0.length l0) (hc0 : l0.length ≤ c0) (hr1 : Kd.C (Kd.int .i64) w A1 l1.length l1) (hc1 : l1.length ≤ c1) (hf : isF l1 = true) (hz : chk l0 1099511627776 = 0)
    (h : (match restF (wts l1) [] l0 with | some l => some (l, (0 : Int)) | none => some ([], 6)) = some (r1, r2)) :
    Calls Try.prog 24 #[.slice A0 l0.length c0, .slice A1 l1.length c1] w fun e w' => ∃ v0_ : Value, e = .returned (.tuple #[v0_, .int .i64 r2]) ∧ Kd.R (Kd.int .i64) 3 w' w.heap.size (fun _ => True) v0_ r1 ∧ Below w.heap.size w w' := by
  obtain ⟨hlen, hwi⟩ := chk_zero hz
  obtain ⟨hW, hWb, hWl⟩ := isF_wts hf
  have hl1 := (isF_within hf).1
  have HR := Aside0.mk hr0
  have HR1 := Aside0.mk hr1
  have HZ := Aside0.mk hz
  have HF := Aside0.mk hf
  have HW := Aside0.mk hwi
  have HWT := Aside0.mk hW
  have HWB := Aside0.mk (within_mono hWb (show (16646144 : Int) ≤ 16777216 by omega))
  have HWL := Aside0.mk hWl
  obtain ⟨p, hp⟩ : ∃ p, p = wts l1 := ⟨_, rfl⟩
  rw [← hp] at HWT HWB HWL h
  have HPP := Aside0.mk hp
  have HH := Aside0.mk h
  have hmk := made_cap l0.length (by omega)
  clear hr0 hr1 hz hf hwi hW hWb hWl hp h
  go_enter Try.func24, Try.ntmps24
  go_wp2_with (first
    | (go_at_call 33; refine (linear_isFilter.calls A1 c1 l1 true _ HR1.out hc1 (by unfold linear_isFilter.f; rw [HF.out])).mono ?_; rintro e w1 ⟨rfl, hb1⟩; have HB1 := Aside0.mk hb1.below; clear hb1)
    | (go_at_call 26; refine (linear_check.calls A0 c0 l0 1099511627776 0 _ (Kd.C_below HR.out HB1.out) hc0 (by unfold linear_check.f; rw [if_pos (by omega), HZ.out])).mono ?_; rintro e w2 ⟨rfl, hb2⟩; have HB2 := Aside0.mk (below_step HB1.out hb2); clear hb2)
    | (go_at_call 34; refine (linear_weights.calls A1 c1 l1 _ _ (Kd.C_below HR1.out HB2.out) hc1 HWT.out).mono ?_; rintro e w3 ⟨v3, rfl, ho3, hb3⟩; obtain ⟨A3, c3, hv3, hc3, hC3⟩ := Kd.R_reads ho3; cases hv3; have HO3 := Aside0.mk ho3; have HB3 := Aside0.mk (below_step HB2.out hb3); have HL3 := Aside0.mk hc3; clear ho3 hb3 hC3 hc3))
  have HR3 := Aside0.mk (Kd.C_below HR.out HB3.out)
  obtain ⟨A3', c3', e3, hc3', hC3'⟩ := Kd.R_reads HO3.out
  cases e3
  have HP3 := Aside0.mk hC3'
  have h0 := Kd.R_take (m := 0) (made_R w3 w3.heap.size l0.length (Nat.le_refl _) (by omega)) (by omega)
  have HO0 := Aside0.mk (Kd.R_mono h0 (fun _ _ => trivial) : Kd.R (Kd.int .i64) 3 _ w3.heap.size (fun _ => True) _ _)
  clear hC3' hmk h0
  go_loopw [8, 9, 10, 27] (fun v _ _ u wr => ∃ (k : Nat) (L : List Int), k ≤ l0.length ∧ u = .int .i64 k ∧ Aside0 (L.length = k) ∧ Aside0 (within 2097152 L) ∧ Aside0 (restF p L (l0.drop k) = restF p [] l0) ∧ Aside0 (Kd.R (Kd.int .i64) 3 wr w3.heap.size (fun _ => True) v L) ∧ Aside0 (Below w3.heap.size w3 wr)) (fun _ _ _ u _ => l0.length - (intOf u).toNat)
  case atStart => exact ⟨0, [], Nat.zero_le _, rfl, ⟨rfl⟩, ⟨fun x hx => by cases hx⟩, ⟨rfl⟩, ⟨by simpa using HO0.out⟩, ⟨below_alloc (Below.refl _ _) _⟩⟩
  case round =>
    obtain ⟨k, L, hk, rfl, HL, HLW, HE, HO, HB⟩ := hrel
    obtain ⟨Av, cv, hv, hcv, hCv⟩ := Kd.R_reads HO.out
    rw [HL.out] at hv hcv hCv
    cases hv
    have HCv := Aside0.mk hCv
    clear hCv
    by_cases hlt : k < l0.length
    · have hsz := HB.out.size
      obtain ⟨ad, e, hx⟩ := Kd.at_int (Kd.C_below HR3.out HB.out) (k : Int) (by omega) (by omega)
      cases e
      rw [Int.toNat_natCast] at hx
      have bx := within_rd HW.out (by omega) (k : Int)
      have bp := pred_bound HWB.out HLW.out k (by have := HWL.out; omega)
      have hE := HE.out
      rw [drop_head l0 k hlt, restF, HL.out] at hE
      obtain ⟨x, hxx⟩ : ∃ x, x = rd l0 (k : Int) := ⟨_, rfl⟩
      rw [← hxx] at hx bx hE
      obtain ⟨y, hyy⟩ : ∃ y, y = pred p L k := ⟨_, rfl⟩
      rw [← hyy] at bp hE
      have HY := Aside0.mk hyy
      have i1 : (0 : Int) ≤ (k : Int) := by omega
      have i2 : (k : Int) < (l0.length : Int) := by omega
      have w1' : IntKind.i64.wrap (x + y) = x + y := IntWalk.i64_in _ (by omega)
      obtain ⟨z, hzz⟩ : ∃ z, z = x + y := ⟨_, rfl⟩
      rw [← hzz] at hE w1'
      have HZZ := Aside0.mk hzz
      have w2' : IntKind.i64.wrap (x + y) = z := by rw [← hzz]; exact w1'
      clear hxx hyy hzz w1'
      have HAT : Aside0 (∀ W, Below w3.heap.size w3 W → Kd.C (Kd.int .i64) W Av k L → Calls Try.prog 38 #[.slice A3 p.length c3, .slice Av k cv, .int .i64 k] W fun e w' => e = .returned (.int .i64 y) ∧ W = w') := ⟨fun W hW hC => by
        have hq := at_any A3 Av c3 cv p L k W (Kd.C_below HP3.out hW) (by rw [HL.out]; exact hC) HWB.out HLW.out (by have := HWL.out; omega) (by rw [HL.out]; exact Nat.le_refl _)
        rw [← HY.out, HL.out] at hq
        exact hq⟩
      by_cases hlo : z < -2097152
      · have q1 : decide (z < -2097152) = true := by simpa using hlo
        rw [if_pos (Or.inl hlo)] at hE
        have HE2 := Aside0.mk hE
        clear hE
        go_wp2_with (go_at_call 38; refine (HAT.out _ HB.out HCv.out).mono ?_; rintro e w9 ⟨rfl, rfl⟩)
        try rw [Exit.noGoto_ret]
        go_ret2
        have h1 := HH.out
        rw [← HE2.out] at h1
        simp only [Option.some.injEq, Prod.mk.injEq] at h1
        obtain ⟨rfl, rfl⟩ := h1
        exact ⟨_, rfl, Kd.R_nil _ _ _ _ _, below_step HB3.out HB.out⟩
      · have q1 : decide (z < -2097152) = false := by simpa using hlo
        by_cases hhi : 2097152 < z
        · have q2 : decide (2097152 < z) = true := by simpa using hhi
          rw [if_pos (Or.inr hhi)] at hE
          have HE2 := Aside0.mk hE
          clear hE
          go_wp2_with (go_at_call 38; refine (HAT.out _ HB.out HCv.out).mono ?_; rintro e w9 ⟨rfl, rfl⟩)
          try rw [Exit.noGoto_ret]
          go_ret2
          have h1 := HH.out
          rw [← HE2.out] at h1
          simp only [Option.some.injEq, Prod.mk.injEq] at h1
          obtain ⟨rfl, rfl⟩ := h1
          exact ⟨_, rfl, Kd.R_nil _ _ _ _ _, below_step HB3.out HB.out⟩
        · have q2 : decide (2097152 < z) = false := by simpa using hhi
          rw [if_neg (by omega)] at hE
          have HE2 := Aside0.mk hE
          clear hE
          go_wp2_with (first
            | (go_at_call 38; refine (HAT.out _ HB.out HCv.out).mono ?_; rintro e w9 ⟨rfl, rfl⟩)
            | (at_builtin; refine Kd.R_append (Kd.int .i64) (w0 := w3) w3.heap.size rfl (.tmp 44) (.tmp 46) 22 3 (.int .i64 0) 8 rfl Try.underlying22 hinfo3 rfl (by decide) (by omega) _ L z [.int .i64 z] (fun _ => True) (fun _ => False) rfl rfl rfl (fun _ hk => hk.elim) (fun _ _ => trivial) HO.out HB.out HB.out.size (by rw [HL.out]; omega) ?_; intro v9 w9 ho hb hg hat; have HO9 := Aside0.mk ho; have HB9 := Aside0.mk hb; clear ho hb hg hat))
          go_roundw
          case rel =>
            refine ⟨k + 1, L ++ [z], by omega, by go_num, ⟨by rw [List.length_append, HL.out]; rfl⟩, ⟨fun t ht => ?_⟩, HE2, HO9, HB9⟩
            rcases List.mem_append.1 ht with ht | ht
            · exact HLW.out t ht
            · obtain rfl := List.mem_singleton.1 ht
              omega
          case measure => simp [intOf]; omega
    · obtain rfl : k = l0.length := by omega
      have hE := HE.out
      rw [List.drop_length, restF] at hE
      have HE2 := Aside0.mk hE
      clear hE
      go_wp2
      go_ret2
      have h1 := HH.out
      rw [← HE2.out] at h1
      simp only [Option.some.injEq, Prod.mk.injEq] at h1
      obtain ⟨rfl, rfl⟩ := h1
      exact ⟨_, rfl, Kd.R_lower HO.out (below_size HB3.out), below_step HB3.out HB.out⟩

set_option maxHeartbeats 1000000 in
theorem linear_Restore.calls (A0 : Option Addr) (c0 : Nat) (l0 : List Int) (A1 : Option Addr) (c1 : Nat) (l1 : List Int) (r1 : List Int) (r2 : Int) (w : World) (hr0 : Kd.C (Kd.int .i64) w A0 l0.length l0) (hc0 : l0.length ≤ c0) (hr1 : Kd.C (Kd.int .i64) w A1 l1.length l1) (hc1 : l1.length ≤ c1) (h : linear_Restore.f l0 l1 = some (r1, r2)) :
    Calls Try.prog 24 #[.slice A0 l0.length c0, .slice A1 l1.length c1] w fun e w' => ∃ v0_ : Value, e = .returned (.tuple #[v0_, .int .i64 r2]) ∧ Kd.R (Kd.int .i64) 3 w' w.heap.size (fun _ => True) v0_ r1 ∧ Below w.heap.size w w' := by
  unfold linear_Restore.f at h
  split at h
  · rename_i hl
    split at h
    · rename_i hf
      simp only [Option.some.injEq, Prod.mk.injEq] at h
      obtain ⟨rfl, rfl⟩ := h
      have HR1 := Aside0.mk hr1
      have HF := Aside0.mk hf
      clear hr0 hr1 hf
      go_enter Try.func24, Try.ntmps24
      go_wp2_with (go_at_call 33; refine (linear_isFilter.calls A1 c1 l1 false _ HR1.out hc1 (by unfold linear_isFilter.f; rw [HF.out])).mono ?_; rintro e w1 ⟨rfl, hb1⟩; have HB1 := Aside0.mk hb1.below; clear hb1)
      go_ret2
      exact ⟨_, rfl, Kd.R_nil _ _ _ _ _, HB1.out⟩
    · rename_i hf
      have hf : isF l1 = true := by cases hq : isF l1 with
        | true => rfl
        | false => exact absurd hq hf
      split at h
      · rename_i hz
        exact restore_yes A0 c0 l0 A1 c1 l1 w r1 r2 hr0 hc0 hr1 hc1 hf hz h
      · rename_i hz
        simp only [Option.some.injEq, Prod.mk.injEq] at h
        obtain ⟨rfl, rfl⟩ := h
        have HR := Aside0.mk hr0
        have HR1 := Aside0.mk hr1
        have HF := Aside0.mk hf
        clear hr0 hr1 hf
        obtain ⟨q, hq⟩ : ∃ q, q = chk l0 1099511627776 := ⟨_, rfl⟩
        rw [← hq] at hz ⊢
        have HQ := Aside0.mk hq
        clear hq
        have hz1 : (q != 0) = true := by simpa using hz
        have hz2 : (q == 0) = false := by simpa using hz
        go_enter Try.func24, Try.ntmps24
        go_wp2_with (first
          | (go_at_call 33; refine (linear_isFilter.calls A1 c1 l1 true _ HR1.out hc1 (by unfold linear_isFilter.f; rw [HF.out])).mono ?_; rintro e w1 ⟨rfl, hb1⟩; have HB1 := Aside0.mk hb1.below; clear hb1)
          | (go_at_call 26; refine (linear_check.calls A0 c0 l0 1099511627776 q _ (Kd.C_below HR.out HB1.out) hc0 (by unfold linear_check.f; rw [if_pos (by omega), HQ.out])).mono ?_; rintro e w2 ⟨rfl, hb2⟩; have HB2 := Aside0.mk (below_step HB1.out hb2); clear hb2))
        go_ret2
        exact ⟨_, rfl, Kd.R_nil _ _ _ _ _, HB2.out⟩
  · cases h
end Go.Proofs.Ytafdiakomcejjaa.P
