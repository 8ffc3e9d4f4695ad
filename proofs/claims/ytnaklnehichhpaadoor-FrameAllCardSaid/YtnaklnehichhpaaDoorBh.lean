/- The contracts of Writer.Gamma, Align, Append. -/
import Derived.Test.YtnaklnehichhpaaDoorBg
namespace Go.Proofs.YtnaklnehichhpaaDoor.P
open Go.RowKit Go.Shelf Go.Proofs.YtnaklnehichhpaaDoor.Bits Go.Proofs.YtnaklnehichhpaaDoorW.PrintWords Go.Proofs.YtnaklnehichhpaaDoorW.PrintLast Go.Proofs.YtnaklnehichhpaaDoorW.PrintMore
set_option linter.unusedVariables false
set_option linter.unusedSimpArgs false
attribute [local go_sem ↓] Go.wp_at_zero Go.wp_at_succ

/-- The exponent of the greatest power of 2 that is not greater. -/
def lg (v : Int) : Nat := v.toNat.log2
theorem lg_of {v : Int} {k : Nat} (h1 : 2 ^ k ≤ v) (h2 : v < 2 ^ (k + 1)) : lg v = k := by
  unfold lg
  obtain ⟨x, rfl⟩ : ∃ x : Nat, v = x := ⟨v.toNat, by have : (0 : Int) < 2 ^ k := Int.pow_pos (by omega); omega⟩
  rw [Int.toNat_natCast]
  have e1 : ((2 ^ k : Nat) : Int) = (2 : Int) ^ k := Int.natCast_pow 2 k
  have e2 : ((2 ^ (k + 1) : Nat) : Int) = (2 : Int) ^ (k + 1) := Int.natCast_pow 2 (k + 1)
  have hx : x ≠ 0 := by have : 0 < 2 ^ k := Nat.pow_pos (by omega); omega
  have h3 := (Nat.log2_lt hx (k := k + 1)).2 (by omega)
  have h4 := (Nat.le_log2 hx (k := k)).2 (by omega)
  omega
def wGamma (L : List Int) (v : Int) : Int × List Int := if v < 1 ∨ 2097152 ≤ v then (1, L) else wput L (numb 0 (lg v) ++ numb v (lg v + 1))
theorem pow_le_of (k m : Nat) (h : k ≤ m) : (2 : Int) ^ k ≤ 2 ^ m := by
  have e1 : ((2 ^ k : Nat) : Int) = (2 : Int) ^ k := Int.natCast_pow 2 k
  have e2 : ((2 ^ m : Nat) : Int) = (2 : Int) ^ m := Int.natCast_pow 2 m
  have := Nat.pow_le_pow_right (show 0 < 2 by omega) h
  omega
theorem pow_step (k : Nat) : (2 : Int) ^ (k + 1) = 2 * 2 ^ k := by rw [Int.pow_succ, Int.mul_comm]

end Go.Proofs.YtnaklnehichhpaaDoor.P
