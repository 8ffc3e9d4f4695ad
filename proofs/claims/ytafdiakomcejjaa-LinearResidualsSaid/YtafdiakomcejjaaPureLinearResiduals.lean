/- The plain law of LinearResiduals. -/
import Derived.Test.YtafdiakomcejjaaPi
import Derived.Test.YtafdiakomcejjaaQb
namespace Go.Proofs.Ytafdiakomcejjaa.Pure
open Go.RowKit Go.Proofs.Ytafdiakomcejjaa.P Go.Proofs.YtafdiakomcejjaaW.PrintWords Go.Proofs.YtafdiakomcejjaaW.PrintLast
set_option linter.unusedVariables false
set_option linter.unusedSimpArgs false

theorem prediction_l0 (L p : List Int) (hp : within 16777216 p) (hL : within 2097152 L) (hpl : p.length ≤ 12) (hLl : L.length ≤ 8192) : ∀ (d j f : Nat), j + d = p.length → d < f → shawmref14_prediction.l0 f L (pacc p L L.length j) p (p.length : Int) (j : Int) = some (pred p L L.length)
  | 0, j, f, h, hf => by
    obtain ⟨g, rfl⟩ : ∃ g, f = g + 1 := ⟨f - 1, by omega⟩
    obtain rfl : j = p.length := by omega
    have hb := pacc_bound hp hL L.length p.length
    rw [shawmref14_prediction.l0, if_neg (by omega), wrap64_id (x := -pacc p L L.length p.length) (by omega) (by omega), near_f _ 4096 (by omega) (by omega) (by omega) (by omega)]
    rfl
  | d + 1, j, f, h, hf => by
    obtain ⟨g, rfl⟩ : ∃ g, f = g + 1 := ⟨f - 1, by omega⟩
    have hb := pacc_bound hp hL L.length j
    have hb1 := pacc_bound hp hL L.length (j + 1)
    have hs := pacc_succ p L L.length j
    have ih := prediction_l0 L p hp hL hpl hLl d (j + 1) g (by omega) (by omega)
    rw [shawmref14_prediction.l0, if_pos (by omega), if_pos (by omega), if_pos (by omega), wrap64_id (x := (L.length : Int) - 1) (by omega) (by omega), wrap64_id (x := (L.length : Int) - 1 - (j : Int)) (by omega) (by omega), wrap64_id (x := (j : Int) + 1) (by omega) (by omega)]
    by_cases hj : j < L.length
    · have ht : pterm p L L.length j = rd p (j : Int) * rd L ((L.length : Int) - 1 - (j : Int)) := by unfold pterm; rw [if_pos hj]
      have hm := mul_bound (within_rd hp (by omega) (j : Int)) (within_rd hL (by omega) ((L.length : Int) - 1 - (j : Int)))
      rw [ht] at hs
      rw [hs] at hb1
      rw [if_pos (by omega), if_pos (by omega), if_pos (by omega), wrap64_id (x := rd p (j : Int) * _) (by omega) (by omega), wrap64_id (by omega) (by omega), ← hs]
      exact ih
    · have ht : pterm p L L.length j = 0 := by unfold pterm; rw [if_neg hj]
      rw [ht, Int.add_zero] at hs
      rw [if_neg (by omega), ← hs]
      exact ih
theorem prediction_f (L p : List Int) (hp : within 16777216 p) (hL : within 2097152 L) (hpl : p.length ≤ 12) (hLl : L.length ≤ 8192) (f : Nat) (hf : 12 < f) : shawmref14_prediction.f f L p = some (pred p L L.length) := by
  unfold shawmref14_prediction.f
  exact prediction_l0 L p hp hL hpl hLl p.length 0 f (by omega) (by omega)
theorem within_take {B : Int} {l : List Int} (h : within B l) (n : Nat) : within B (l.take n) := fun x hx => h x (List.mem_of_mem_take hx)

theorem residual_l0 (x p : List Int) (hp : within 16777216 p) (hx : within 2097152 x) (hpl : p.length ≤ 12) (hxl : x.length ≤ 8192) : ∀ (d i f : Nat), i + d = x.length → d + 13 < f → shawmref14_Residual.l0 f x p ((resid p x).take i) x (x.length : Int) (i : Int) = some (resid p x, 0)
  | 0, i, f, h, hf => by
    obtain ⟨g, rfl⟩ : ∃ g, f = g + 1 := ⟨f - 1, by omega⟩
    rw [shawmref14_Residual.l0, if_neg (by omega), List.take_of_length_le (by rw [resid_length]; omega)]
  | d + 1, i, f, h, hf => by
    obtain ⟨g, rfl⟩ : ∃ g, f = g + 1 := ⟨f - 1, by omega⟩
    have hl : (x.take i).length = i := by rw [List.length_take]; omega
    have hpf := prediction_f (x.take i) p hp (within_take hx i) hpl (by omega) g (by omega)
    rw [hl, pred_take] at hpf
    have hb := pred_bound hp hx i hpl
    have hx0 := within_rd hx (by omega) (i : Int)
    rw [shawmref14_Residual.l0, if_pos (by omega), if_pos (by omega), if_pos (by omega), if_pos (by omega), Int.toNat_natCast, hpf]
    simp only [Option.bind_some]
    rw [if_pos (by rw [List.length_take, resid_length]; omega), wrap64_id (x := rd x (i : Int) - _) (by omega) (by omega), wrap64_id (x := (i : Int) + 1) (by omega) (by omega), ← resid_take p x i (by omega)]
    exact residual_l0 x p hp hx hpl hxl d (i + 1) g (by omega) (by omega)
theorem ref_residual (x l : List Int) (hx : x.length ≤ 9000) (k : Nat) (hk : 9050 < k) : shawmref14_Residual.f k x l = if isF l = true then (if chk x 2097152 = 0 then some (resid (wts l) x, 0) else some ([], chk x 2097152)) else some ([], 1) := by
  unfold shawmref14_Residual.f
  rw [is_f l k (by omega)]
  simp only [Option.bind_some]
  by_cases hf : isF l = true
  · rw [if_pos hf, if_pos hf, list_f x 2097152 (by omega) (by omega) k (by omega)]
    simp only [Option.bind_some]
    by_cases hc : chk x 2097152 = 0
    · rw [if_pos hc, if_pos hc, weights_f l hf k (by omega)]
      simp only [Option.bind_some]
      obtain ⟨hxl, hxw⟩ := chk_zero hc
      obtain ⟨_, hw, hwl⟩ := isF_wts hf
      have := (isF_within hf).1
      exact residual_l0 x (wts l) (within_mono hw (by omega)) hxw (by omega) hxl x.length 0 k (by omega) (by omega)
    · rw [if_neg hc, if_neg hc]
  · rw [if_neg hf, if_neg hf]

def restored (p out d : List Int) : List Int × Int := match restF p out d with
  | some y => (y, 0)
  | none => ([], 6)
theorem restore_l0 (dd p : List Int) (hp : within 16777216 p) (hd : within 1099511627776 dd) (hpl : p.length ≤ 12) (hdl : dd.length ≤ 8192) : ∀ (m i f : Nat) (out : List Int), i + m = dd.length → out.length = i → within 2097152 out → m + 13 < f → shawmref14_Restore.l0 f p out dd (dd.length : Int) (i : Int) = some (restored p out (dd.drop i))
  | 0, i, f, out, h, ho, hw, hf => by
    obtain ⟨g, rfl⟩ : ∃ g, f = g + 1 := ⟨f - 1, by omega⟩
    rw [shawmref14_Restore.l0, if_neg (by omega), List.drop_of_length_le (by omega)]
    unfold restored
    rw [restF]
  | m + 1, i, f, out, h, ho, hw, hf => by
    obtain ⟨g, rfl⟩ : ∃ g, f = g + 1 := ⟨f - 1, by omega⟩
    have hpf := prediction_f out p hp hw hpl (by omega) g (by omega)
    have hb := pred_bound hp hw out.length hpl
    have hx0 := within_rd hd (by omega) (i : Int)
    rw [shawmref14_Restore.l0, if_pos (by omega), if_pos (by omega), if_pos (by omega), hpf]
    simp only [Option.bind_some]
    rw [wrap64_id (x := rd dd (i : Int) + _) (by omega) (by omega), drop_head dd i (by omega)]
    unfold restored
    rw [restF]
    by_cases c1 : rd dd (i : Int) + pred p out out.length < -2097152
    · rw [if_pos c1, if_pos (Or.inl c1)]
    · by_cases c2 : rd dd (i : Int) + pred p out out.length > 2097152
      · rw [if_neg c1, if_pos c2, if_pos (Or.inr c2)]
      · rw [if_neg c1, if_neg c2, if_pos (show out.length < 17592186044416 by omega), if_neg (show ¬ (rd dd (i : Int) + pred p out out.length < -2097152 ∨ 2097152 < rd dd (i : Int) + pred p out out.length) by omega), wrap64_id (x := (i : Int) + 1) (by omega) (by omega)]
        refine restore_l0 dd p hp hd hpl hdl m (i + 1) g _ (by omega) (by rw [List.length_append, List.length_singleton]; omega) (fun t ht => ?_) (by omega)
        rcases List.mem_append.1 ht with ht | ht
        · exact hw t ht
        · obtain rfl := List.mem_singleton.1 ht; omega
theorem ref_restore (x l : List Int) (hx : x.length ≤ 9000) (k : Nat) (hk : 9050 < k) : shawmref14_Restore.f k x l = if isF l = true then (if chk x 1099511627776 = 0 then some (restored (wts l) [] x) else some ([], chk x 1099511627776)) else some ([], 1) := by
  unfold shawmref14_Restore.f
  rw [is_f l k (by omega)]
  simp only [Option.bind_some]
  by_cases hf : isF l = true
  · rw [if_pos hf, if_pos hf, list_f x 1099511627776 (by omega) (by omega) k (by omega)]
    simp only [Option.bind_some]
    by_cases hc : chk x 1099511627776 = 0
    · rw [if_pos hc, if_pos hc, weights_f l hf k (by omega)]
      simp only [Option.bind_some]
      obtain ⟨hxl, hxw⟩ := chk_zero hc
      obtain ⟨_, hw, hwl⟩ := isF_wts hf
      have := (isF_within hf).1
      exact restore_l0 x (wts l) (within_mono hw (by omega)) hxw (by omega) hxl x.length 0 k [] (by omega) rfl (fun t ht => by cases ht) (by omega)
    · rw [if_neg hc, if_neg hc]
  · rw [if_neg hf, if_neg hf]
theorem residual_c (x l : List Int) (hx : x.length ≤ 9000) (hl : l.length ≤ 100) : linear_Residual.f x l = if isF l = true then (if chk x 2097152 = 0 then some (resid (wts l) x, 0) else some ([], chk x 2097152)) else some ([], 1) := by
  unfold linear_Residual.f
  rw [if_pos ⟨by omega, by omega⟩]
  cases isF l <;> rfl
theorem restore_c (x l : List Int) (hx : x.length ≤ 9000) (hl : l.length ≤ 100) : linear_Restore.f x l = if isF l = true then (if chk x 1099511627776 = 0 then some (restored (wts l) [] x) else some ([], chk x 1099511627776)) else some ([], 1) := by
  unfold linear_Restore.f restored
  rw [if_pos ⟨by omega, by omega⟩]
  cases isF l
  · rfl
  · simp only [Bool.true_eq_false, if_false, if_true]
    split
    · cases restF (wts l) [] x <;> rfl
    · rfl
theorem restored_length (p x : List Int) (hx : x.length ≤ 9000) : (restored p [] x).1.length ≤ 9000 := by
  unfold restored
  cases h : restF p [] x with
  | none => simp
  | some y => have := (resid_restF p x y h).2.2; simp only; omega

theorem LinearResiduals : shawmlaw14_LinearResiduals.Pure := by
  intro x l _ _ _ _ _ _
  refine ⟨9100, ?_⟩
  unfold shawmlaw14_LinearResiduals.f
  by_cases h1 : (x.length : Int) > 9000
  · rw [if_pos h1]; rfl
  · rw [if_neg h1]
    by_cases h2 : (l.length : Int) > 100
    · rw [show decide ((l.length : Int) > 100) = true by simpa using h2]; rfl
    · rw [show decide ((l.length : Int) > 100) = false by simpa using h2, shawmlaw14_LinearResiduals.j0, if_neg (by decide),
        residual_c x l (by omega) (by omega), ref_residual x l (by omega) 9099 (by omega), restore_c x l (by omega) (by omega), ref_restore x l (by omega) 9099 (by omega)]
      have key : ∀ (r s : List Int × Int), r.1.length ≤ 9000 → s.1.length ≤ 9000 → ((some r).bind fun a => (some r).bind fun b => (some s).bind fun c => (some s).bind fun d => (shawmref02_Ints.f 9099 a.1 b.1).bind fun t => (if t = true then (if a.2 = b.2 then ((shawmref02_Ints.f 9099 c.1 d.1).bind fun t2 => (if t2 = true then (if c.2 = d.2 then ((shawmlaw14_awake.f).bind fun t3 => (some t3)) else (some false)) else (some false))) else (some false)) else (some false))) = some true := by
        intro r s hr hs
        simp only [Option.bind_some]
        rw [ints_refl r.1 r.1 rfl 9099 (by omega) (by omega)]
        simp only [Option.bind_some, if_true]
        rw [ints_refl s.1 s.1 rfl 9099 (by omega) (by omega)]
        rfl
      have e1 : ∃ r : List Int × Int, (if isF l = true then (if chk x 2097152 = 0 then some (resid (wts l) x, (0 : Int)) else some ([], chk x 2097152)) else some ([], 1)) = some r ∧ r.1.length ≤ 9000 := by
        split
        · split
          · exact ⟨_, rfl, by rw [resid_length]; omega⟩
          · exact ⟨_, rfl, by simp⟩
        · exact ⟨_, rfl, by simp⟩
      have e2 : ∃ r : List Int × Int, (if isF l = true then (if chk x 1099511627776 = 0 then some (restored (wts l) [] x) else some ([], chk x 1099511627776)) else some ([], 1)) = some r ∧ r.1.length ≤ 9000 := by
        split
        · split
          · exact ⟨_, rfl, restored_length _ _ (by omega)⟩
          · exact ⟨_, rfl, by simp⟩
        · exact ⟨_, rfl, by simp⟩
      obtain ⟨r, hr, hr1⟩ := e1
      obtain ⟨s, hs, hs1⟩ := e2
      rw [hr, hs]
      exact key r s hr1 hs1
end Go.Proofs.Ytafdiakomcejjaa.Pure
