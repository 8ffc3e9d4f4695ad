/- The plain law of LinearUndone. -/
import Derived.Test.YtafdiakomcejjaaPj
import Derived.Test.YtafdiakomcejjaaQa
namespace Go.Proofs.Ytafdiakomcejjaa.Pure
open Go.RowKit Go.Proofs.Ytafdiakomcejjaa.P Go.Proofs.YtafdiakomcejjaaW.PrintWords Go.Proofs.YtafdiakomcejjaaW.PrintLast
set_option linter.unusedVariables false
set_option linter.unusedSimpArgs false

theorem residual_cases (x l : List Int) (hx : x.length ≤ maxLen) (hl : l.length ≤ maxLen) : (∃ r e, linear_Residual.f x l = some (r, e) ∧ e ≠ 0) ∨ (isF l = true ∧ chk x 2097152 = 0 ∧ linear_Residual.f x l = some (resid (wts l) x, 0)) := by
  simp only [maxLen] at hx hl
  unfold linear_Residual.f
  rw [if_pos ⟨hx, hl⟩]
  by_cases h1 : isF l = false
  · rw [if_pos h1]; exact .inl ⟨_, _, rfl, by omega⟩
  · rw [if_neg h1]
    by_cases h2 : chk x 2097152 = 0
    · rw [if_pos h2]; exact .inr ⟨by simpa using h1, h2, rfl⟩
    · rw [if_neg h2]; exact .inl ⟨_, _, rfl, h2⟩
theorem restore_cases (x l : List Int) (hx : x.length ≤ maxLen) (hl : l.length ≤ maxLen) : (∃ r e, linear_Restore.f x l = some (r, e) ∧ e ≠ 0) ∨ (∃ y, isF l = true ∧ chk x 1099511627776 = 0 ∧ restF (wts l) [] x = some y ∧ linear_Restore.f x l = some (y, 0)) := by
  simp only [maxLen] at hx hl
  unfold linear_Restore.f
  rw [if_pos ⟨hx, hl⟩]
  by_cases h1 : isF l = false
  · rw [if_pos h1]; exact .inl ⟨_, _, rfl, by omega⟩
  · rw [if_neg h1]
    by_cases h2 : chk x 1099511627776 = 0
    · rw [if_pos h2]
      cases h3 : restF (wts l) [] x with
      | none => exact .inl ⟨_, _, rfl, by omega⟩
      | some y => exact .inr ⟨y, by simpa using h1, h2, rfl, rfl⟩
    · rw [if_neg h2]; exact .inl ⟨_, _, rfl, h2⟩
theorem differ_cases (x : List Int) (k : Int) (hx : x.length ≤ maxLen) : (∃ r e, linear_Differ.f x k = some (r, e) ∧ e ≠ 0) ∨ (0 ≤ k ∧ k ≤ 4 ∧ chk x 2097152 = 0 ∧ linear_Differ.f x k = some (diffs x k.toNat, 0)) := by
  simp only [maxLen] at hx
  unfold linear_Differ.f
  rw [if_pos hx]
  by_cases h1 : k < 0 ∨ 4 < k
  · rw [if_pos h1]; exact .inl ⟨_, _, rfl, by omega⟩
  · rw [if_neg h1]
    by_cases h2 : chk x 2097152 = 0
    · rw [if_pos h2]; exact .inr ⟨by omega, by omega, h2, rfl⟩
    · rw [if_neg h2]; exact .inl ⟨_, _, rfl, h2⟩
theorem add_cases (x : List Int) (k : Int) (hx : x.length ≤ maxLen) : (∃ r e, linear_Add.f x k = some (r, e) ∧ e ≠ 0) ∨ (∃ y, 0 ≤ k ∧ k ≤ 4 ∧ chk x 67108864 = 0 ∧ sums x k.toNat = some y ∧ chk y 2097152 = 0 ∧ linear_Add.f x k = some (y, 0)) := by
  simp only [maxLen] at hx
  unfold linear_Add.f
  rw [if_pos hx]
  by_cases h1 : k < 0 ∨ 4 < k
  · rw [if_pos h1]; exact .inl ⟨_, _, rfl, by omega⟩
  · rw [if_neg h1]
    by_cases h2 : chk x 67108864 = 0
    · rw [if_pos h2]
      cases h3 : sums x k.toNat with
      | none => exact .inl ⟨_, _, rfl, by omega⟩
      | some y =>
        by_cases h4 : chk y 2097152 = 0
        · refine .inr ⟨y, by omega, by omega, h2, rfl, h4, ?_⟩
          show (if chk y 2097152 = 0 then some (y, (0 : Int)) else some ([], 6)) = _
          rw [if_pos h4]
        · refine .inl ⟨[], 6, ?_, by omega⟩
          show (if chk y 2097152 = 0 then some (y, (0 : Int)) else some ([], 6)) = _
          rw [if_neg h4]
    · rw [if_neg h2]; exact .inl ⟨_, _, rfl, h2⟩

theorem j3_ok (x : List Int) (k : Int) (hx : x.length ≤ 9000) (n : Nat) (hn : 9001 < n) : shawmlaw14_LinearUndone.j3 n x k = some true := by
  obtain ⟨m, rfl⟩ : ∃ m, n = m + 1 := ⟨n - 1, by omega⟩
  rw [shawmlaw14_LinearUndone.j3]
  rcases add_cases x k (by simp [maxLen]; omega) with ⟨r, e, h, he⟩ | ⟨y, h0, h4, hc, hs, hcy, h⟩
  · rw [h]; simp only [Option.bind_some]; rw [if_neg he]; rfl
  · rw [h]; simp only [Option.bind_some]
    obtain ⟨hyl, hyw⟩ := chk_zero hcy
    have hd := diffs_sums k.toNat x y hs
    have h2 : linear_Differ.f y k = some (x, 0) := by
      rcases differ_cases y k (by simp [maxLen]; omega) with ⟨r, e, h', he⟩ | ⟨_, _, _, h'⟩
      · exfalso
        unfold linear_Differ.f at h'
        rw [if_pos (by omega), if_neg (by omega), if_pos hcy] at h'
        injection h' with h'; injection h' with _ h'; omega
      · rw [h', hd.1]
    simp only [if_true, h2, Option.bind_some]
    simp only [if_true, ints_refl x x rfl m (by omega) (by omega), Option.bind_some]
    rfl
theorem j2_ok (x : List Int) (k : Int) (hx : x.length ≤ 9000) (n : Nat) (hn : 9002 < n) : shawmlaw14_LinearUndone.j2 n x k = some true := by
  obtain ⟨m, rfl⟩ : ∃ m, n = m + 1 := ⟨n - 1, by omega⟩
  rw [shawmlaw14_LinearUndone.j2]
  rcases differ_cases x k (by simp [maxLen]; omega) with ⟨r, e, h, he⟩ | ⟨h0, h4, hc, h⟩
  · rw [h]; simp only [Option.bind_some]; rw [if_neg he]; exact j3_ok x k hx m (by omega)
  · rw [h]; simp only [Option.bind_some]
    obtain ⟨hxl, hxw⟩ := chk_zero hc
    have h2 : linear_Add.f (diffs x k.toNat) k = some (x, 0) := by
      unfold linear_Add.f
      rw [diffs_length, if_pos (by omega), if_neg (by omega), if_pos (chk_ok (by rw [diffs_length]; exact hxl) (within_mono (within_diffs hxw k.toNat (by omega)) (by omega))), sums_diffs hxw]
      show (if chk x 2097152 = 0 then some (x, (0 : Int)) else some ([], 6)) = _
      rw [if_pos hc]
    simp only [if_true, h2, Option.bind_some]
    simp only [if_true, ints_refl x x rfl m (by omega) (by omega), Option.bind_some]
    exact j3_ok x k hx m (by omega)
theorem j1_ok (x l : List Int) (k : Int) (hx : x.length ≤ 9000) (hl : l.length ≤ 100) (n : Nat) (hn : 9003 < n) : shawmlaw14_LinearUndone.j1 n x l k = some true := by
  obtain ⟨m, rfl⟩ : ∃ m, n = m + 1 := ⟨n - 1, by omega⟩
  rw [shawmlaw14_LinearUndone.j1]
  rcases restore_cases x l (by simp [maxLen]; omega) (by simp [maxLen]; omega) with ⟨r, e, h, he⟩ | ⟨y, hf, hc, hr, h⟩
  · rw [h]; simp only [Option.bind_some]; rw [if_neg he]; exact j2_ok x k hx m (by omega)
  · rw [h]; simp only [Option.bind_some]
    obtain ⟨hxl, hxw⟩ := chk_zero hc
    obtain ⟨hy, hyw, hyl⟩ := resid_restF _ _ _ hr
    have h2 : linear_Residual.f y l = some (x, 0) := by
      unfold linear_Residual.f
      rw [if_pos ⟨by omega, by omega⟩, if_neg (by rw [hf]; decide), if_pos (chk_ok (by omega) hyw), hy]
    simp only [if_true, h2, Option.bind_some]
    simp only [if_true, ints_refl x x rfl m (by omega) (by omega), Option.bind_some]
    exact j2_ok x k hx m (by omega)
theorem j0_ok (x l : List Int) (k : Int) (hx : x.length ≤ 9000) (hl : l.length ≤ 100) (n : Nat) (hn : 9004 < n) : shawmlaw14_LinearUndone.j0 n x l k false = some true := by
  obtain ⟨m, rfl⟩ : ∃ m, n = m + 1 := ⟨n - 1, by omega⟩
  rw [shawmlaw14_LinearUndone.j0]
  rw [if_neg (by decide)]
  rcases residual_cases x l (by simp [maxLen]; omega) (by simp [maxLen]; omega) with ⟨r, e, h, he⟩ | ⟨hf, hc, h⟩
  · rw [h]; simp only [Option.bind_some]; rw [if_neg he]; exact j1_ok x l k hx hl m (by omega)
  · rw [h]; simp only [Option.bind_some]
    obtain ⟨hxl, hxw⟩ := chk_zero hc
    obtain ⟨_, hWb, hWl⟩ := isF_wts hf
    have hWb' : within 16777216 (wts l) := within_mono hWb (by omega)
    have hl12 := (isF_within hf).1
    have h2 : linear_Restore.f (resid (wts l) x) l = some (x, 0) := by
      unfold linear_Restore.f
      have hq := restF_resid (wts l) x hxw x.length 0 (by omega)
      rw [List.take_zero, List.drop_zero] at hq
      rw [if_pos ⟨by rw [resid_length]; omega, by omega⟩, if_neg (by rw [hf]; decide), if_pos (chk_ok (by rw [resid_length]; exact hxl) (resid_within hWb' hxw (by omega))), hq]
    simp only [if_true, h2, Option.bind_some]
    simp only [if_true, ints_refl x x rfl m (by omega) (by omega), Option.bind_some]
    exact j1_ok x l k hx hl m (by omega)

theorem LinearUndone : shawmlaw14_LinearUndone.Pure := by
  intro x l k _ _ _ _ _ _ _
  refine ⟨9100, ?_⟩
  unfold shawmlaw14_LinearUndone.f
  by_cases h1 : (x.length : Int) > 9000
  · rw [if_pos h1]; rfl
  · rw [if_neg h1]
    by_cases h2 : (l.length : Int) > 100
    · rw [show decide ((l.length : Int) > 100) = true by simpa using h2]; rfl
    · rw [show decide ((l.length : Int) > 100) = false by simpa using h2]
      exact j0_ok x l k (by omega) (by omega) 9100 (by omega)
end Go.Proofs.Ytafdiakomcejjaa.Pure
