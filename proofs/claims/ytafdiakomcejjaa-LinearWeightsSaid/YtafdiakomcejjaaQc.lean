/- Plain laws of chapter 14: a filter without the zeros at its end. -/
import Derived.Test.YtafdiakomcejjaaQa
namespace Go.Proofs.Ytafdiakomcejjaa.P
open Go.RowKit Go.Proofs.YtafdiakomcejjaaW.PrintWords Go.Proofs.YtafdiakomcejjaaW.PrintLast Go.Proofs.YtafdiakomcejjaaW.PrintMore
set_option linter.unusedVariables false
set_option linter.unusedSimpArgs false

/-- How many numbers stand ahead of the zeros at the end of the first n. -/
def trimN (x : List Int) : Nat → Nat
  | 0 => 0
  | n + 1 => if rd x (n : Int) = 0 then trimN x n else n + 1
theorem trimN_le (x : List Int) : ∀ n, trimN x n ≤ n
  | 0 => Nat.le_refl _
  | n + 1 => by have := trimN_le x n; unfold trimN; split <;> omega
theorem trim_l0 (x : List Int) (hx : x.length ≤ 1000) : ∀ (n f : Nat), n ≤ x.length → n < f → linear_Trim.l0 f x (n : Int) = some (x.take (trimN x n), 0)
  | 0, f, h, hf => by
    obtain ⟨g, rfl⟩ : ∃ g, f = g + 1 := ⟨f - 1, by omega⟩
    rw [linear_Trim.l0, if_neg (by omega), if_pos (by omega), if_pos (by omega)]
    unfold slices_Clone_int_int.f
    rw [if_pos (by simp)]
    rfl
  | n + 1, f, h, hf => by
    obtain ⟨g, rfl⟩ : ∃ g, f = g + 1 := ⟨f - 1, by omega⟩
    rw [linear_Trim.l0, if_pos (by omega), show ((n + 1 : Nat) : Int) - 1 = (n : Int) by omega, wrap64_id (x := (n : Int)) (by omega) (by omega), if_pos (by omega), if_pos (by omega)]
    unfold trimN
    by_cases hz : rd x (n : Int) = 0
    · rw [if_pos hz, if_pos hz]
      exact trim_l0 x hx n g (by omega) (by omega)
    · rw [if_neg hz, if_neg hz, if_pos (by omega), if_pos (by omega), Int.toNat_natCast]
      unfold slices_Clone_int_int.f
      rw [if_pos (by rw [List.length_take]; omega)]
      rfl
/-- The filter without its zeros at the end. -/
def trimd (x : List Int) : List Int := x.take (trimN x x.length)
theorem trim_f (x : List Int) (k : Nat) (hk : 1000 < k) : linear_Trim.f k x = if isF x = true then some (trimd x, 0) else some ([], 1) := by
  unfold linear_Trim.f linear_isFilter.f
  simp only [Option.bind_some]
  by_cases h : isF x = true
  · rw [if_pos h, if_pos h]
    have := (isF_within h).1
    exact trim_l0 x (by omega) x.length k (Nat.le_refl _) (by omega)
  · rw [if_neg h, if_neg h]
theorem weights_c (x : List Int) : linear_Weights.f x = if isF x = true then some (wts x, 0) else some ([], 1) := by
  unfold linear_Weights.f linear_isFilter.f
  simp only [Option.bind_some]
  by_cases h : isF x = true
  · rw [if_pos h, if_pos h, (isF_wts h).1]; rfl
  · rw [if_neg h, if_neg h]
end Go.Proofs.Ytafdiakomcejjaa.P
