/- The contracts of Writer.Signed, Unary. -/
import Derived.Test.YtnaklnehichhpaaDoorBf
namespace Go.Proofs.YtnaklnehichhpaaDoor.P
open Go.RowKit Go.Shelf Go.Proofs.YtnaklnehichhpaaDoor.Bits Go.Proofs.YtnaklnehichhpaaDoorW.PrintWords Go.Proofs.YtnaklnehichhpaaDoorW.PrintLast Go.Proofs.YtnaklnehichhpaaDoorW.PrintMore
set_option linter.unusedVariables false
set_option linter.unusedSimpArgs false
attribute [local go_sem ↓] Go.wp_at_zero Go.wp_at_succ

def wUnary (L : List Int) (n : Int) : Int × List Int := if n < 0 ∨ 1000 < n then (1, L) else wput L (numb 0 n.toNat ++ numb 1 1)
def wSigned (L : List Int) (v n : Int) : Int × List Int := if n < 1 ∨ 32 < n ∨ v < -2 ^ (n.toNat - 1) ∨ 2 ^ (n.toNat - 1) ≤ v then (1, L) else wput L (numb (v % 2 ^ n.toNat) n.toNat)

theorem pow_le31 {m : Nat} (h : m ≤ 31) : (1 : Int) ≤ 2 ^ m ∧ (2 : Int) ^ m ≤ 2147483648 := by
  have h1 := Nat.pow_le_pow_right (show 0 < 2 by omega) h
  have h2 : 1 ≤ 2 ^ m := Nat.one_le_two_pow
  have e : ((2 ^ m : Nat) : Int) = (2 : Int) ^ m := Int.natCast_pow 2 m
  have e32 : (2 : Nat) ^ 31 = 2147483648 := rfl
  omega
end Go.Proofs.YtnaklnehichhpaaDoor.P
