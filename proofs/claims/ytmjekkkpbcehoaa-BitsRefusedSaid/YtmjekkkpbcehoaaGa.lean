/- A call of a reader with an error gives nothing and stays (plain law). -/
import Derived.Test.YtmjekkkpbcehoaaEd
namespace Go.Proofs.Ytmjekkkpbcehoaa.P
open Go.Proofs.Ytmjekkkpbcehoaa.Bits
set_option linter.unusedVariables false
set_option linter.unusedSimpArgs false

theorem rGet_err (L : List Int) (a : Nat) (n : Int) (h : (rGet L a n).2.1 ≠ 0) : rGet L a n = (0, (rGet L a n).2.1, a) := by
  unfold rGet at *
  split
  · rfl
  · split
    · rfl
    · rename_i q1 q2
      rw [if_neg q1, if_neg q2] at h
      exact (h rfl).elim
theorem rSigned_err (L : List Int) (a : Nat) (n : Int) (h : (rSigned L a n).2.1 ≠ 0) : rSigned L a n = (0, (rSigned L a n).2.1, a) := by
  unfold rSigned at *
  split
  · rfl
  · split
    · rfl
    · rename_i q1 q2
      rw [if_neg q1, if_neg q2] at h
      exact (h rfl).elim
theorem rZeros_err (L : List Int) (a m : Nat) (h : (rZeros L a m).2.1 ≠ 0) : rZeros L a m = (0, (rZeros L a m).2.1, a) := by
  rcases rZeros_cases L a m with (e | e) | ⟨z, _, _, e⟩
  · rw [e]
  · rw [e]
  · rw [e] at h; exact (h rfl).elim
theorem rUnary_err (L : List Int) (a : Nat) (n : Int) (h : (rUnary L a n).2.1 ≠ 0) : rUnary L a n = (0, (rUnary L a n).2.1, a) := by
  unfold rUnary at *
  split
  · rfl
  · rename_i q
    rw [if_neg q] at h
    exact rZeros_err _ _ _ h
theorem rGamma_err (L : List Int) (a : Nat) (h : (rGamma L a).2.1 ≠ 0) : rGamma L a = (0, (rGamma L a).2.1, a) := by
  unfold rGamma at *
  split
  · rfl
  · split
    · rfl
    · rename_i q1 q2
      rw [if_neg q1, if_neg q2] at h
      exact (h rfl).elim
theorem rTake_err (L : List Int) (a : Nat) (n : Int) (h : (rTake L a n).2.1 ≠ 0) : rTake L a n = ([], (rTake L a n).2.1, a) := by
  unfold rTake at *
  split
  · rfl
  · split
    · rfl
    · rename_i q1 q2
      rw [if_neg q1, if_neg q2] at h
      exact (h rfl).elim
theorem rSeek_err (L : List Int) (a : Nat) (n : Int) (h : (rSeek L a n).1 ≠ 0) : (rSeek L a n).2 = a := by
  unfold rSeek at *
  split
  · rfl
  · rename_i q1
    rw [if_neg q1] at h
    exact (h rfl).elim
/-- A call of a reader with an error gives nothing and stays. -/
theorem rOp_err (L : List Int) (a : Nat) (o : OpD) (x er : Int) (M : List Int) (b : Nat) (e : rOp L a o = (x, M, er, b)) (h : er ≠ 0) : x = 0 ∧ M = [] ∧ b = a := by
  have key : (rOp L a o).2.2.1 ≠ 0 → (rOp L a o).1 = 0 ∧ (rOp L a o).2.1 = [] ∧ (rOp L a o).2.2.2 = a := by
    unfold rOp
    split
    · intro q; have := rGet_err _ _ _ q; exact ⟨by rw [this], rfl, by rw [this]⟩
    · intro q; have := rSigned_err _ _ _ q; exact ⟨by rw [this], rfl, by rw [this]⟩
    · intro q; have := rUnary_err _ _ _ q; exact ⟨by rw [this], rfl, by rw [this]⟩
    · intro q; have := rGamma_err _ _ q; exact ⟨by rw [this], rfl, by rw [this]⟩
    · intro q; exact (q rfl).elim
    · intro q; have := rTake_err _ _ _ q; exact ⟨rfl, by rw [this], by rw [this]⟩
    · intro q; exact ⟨rfl, rfl, rSeek_err _ _ _ q⟩
  rw [e] at key
  exact key h
end Go.Proofs.Ytmjekkkpbcehoaa.P
