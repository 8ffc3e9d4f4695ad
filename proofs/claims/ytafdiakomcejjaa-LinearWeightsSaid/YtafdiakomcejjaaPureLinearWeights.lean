/- The plain law of LinearWeights. -/
import Derived.Test.YtafdiakomcejjaaPh
import Derived.Test.YtafdiakomcejjaaQb
import Derived.Test.YtafdiakomcejjaaQc
namespace Go.Proofs.Ytafdiakomcejjaa.Pure
open Go.RowKit Go.Proofs.Ytafdiakomcejjaa.P Go.Proofs.YtafdiakomcejjaaW.PrintWords Go.Proofs.YtafdiakomcejjaaW.PrintLast
set_option linter.unusedVariables false
set_option linter.unusedSimpArgs false

theorem ref_trim_f (x : List Int) (k : Nat) : shawmref14_Trim.f k x = if isF x = true then some (trimd x, 0) else some ([], 1) := rfl
theorem ref_weights_c (x : List Int) (k : Nat) (hk : 9000 < k) : shawmref14_Weights.f k x = if isF x = true then some (wts x, 0) else some ([], 1) := by
  unfold shawmref14_Weights.f
  rw [is_f x k (by omega)]
  simp only [Option.bind_some]
  by_cases h : isF x = true
  · rw [if_pos h, if_pos h, weights_f x h k (by omega)]; rfl
  · rw [if_neg h, if_neg h]

theorem LinearWeights : shawmlaw14_LinearWeights.Pure := by
  intro x _ _ _
  refine ⟨9100, ?_⟩
  unfold shawmlaw14_LinearWeights.f
  by_cases h1 : (x.length : Int) > 100
  · rw [if_pos h1]; rfl
  · rw [if_neg h1, weights_c, ref_weights_c x 9100 (by omega), trim_f x 9100 (by omega), ref_trim_f x 9100]
    by_cases h : isF x = true
    · have hl := (isF_wts h).2.2
      simp only [if_pos h, Option.bind_some]
      rw [ints_refl _ _ rfl 9100 (by omega) (by omega)]
      simp only [Option.bind_some, if_true]
      rw [ints_refl _ _ rfl 9100 (by unfold trimd; rw [List.length_take]; omega) (by unfold trimd; rw [List.length_take]; omega)]
      rfl
    · simp only [if_neg h, Option.bind_some]
      rw [ints_refl [] [] rfl 9100 (by decide) (by decide)]
      rfl
end Go.Proofs.Ytafdiakomcejjaa.Pure
