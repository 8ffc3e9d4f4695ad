/- Plain laws of chapter 14: the reference's checks. -/
import Derived.Test.YtafdiakomcejjaaPb
import Derived.Test.YtafdiakomcejjaaQa
namespace Go.Proofs.Ytafdiakomcejjaa.P
open Go.RowKit Go.Proofs.YtafdiakomcejjaaW.PrintWords Go.Proofs.YtafdiakomcejjaaW.PrintLast Go.Proofs.YtafdiakomcejjaaW.PrintMore
set_option linter.unusedVariables false
set_option linter.unusedSimpArgs false

theorem within_l0 (a : Int) (l : List Int) (h0 : 0 ≤ a) (h1 : a ≤ 4611686018427387904) (hm : l.length < 4611686018427387904) : ∀ (k i : Nat), i ≤ l.length → l.length - i < k → shawmref06_within.l0 k a l (l.length : Int) (i : Int) = some (!(l.drop i).any (outB a))
  | 0, i, _, h => by omega
  | k + 1, i, hi, h => by
    rw [shawmref06_within.l0]
    by_cases hlt : i < l.length
    · rw [if_pos (by omega), if_pos (by omega), if_pos (by omega), drop_head l i hlt, List.any_cons, wrap64_id (x := -a) (by omega) (by omega), wrap64_id (x := (i : Int) + 1) (by omega) (by omega)]
      by_cases c1 : rd l (i : Int) < -a
      · rw [if_pos c1]; simp [outB, c1]
      · rw [if_neg c1]
        by_cases c2 : rd l (i : Int) > a
        · rw [if_pos c2]; simp [outB, c2]
        · rw [if_neg c2, show outB a (rd l (i : Int)) = false by simp [outB]; omega, Bool.false_or]
          exact within_l0 a l h0 h1 hm k (i + 1) (by omega) (by omega)
    · rw [if_neg (by omega), List.drop_of_length_le (by omega)]; rfl
theorem within_f (a : Int) (l : List Int) (h0 : 0 ≤ a) (h1 : a ≤ 4611686018427387904) (hm : l.length < 4611686018427387904) (k : Nat) (hk : l.length < k) : shawmref06_Within.f k a l = some (!l.any (outB a)) := by
  unfold shawmref06_Within.f shawmref06_within.f
  have := within_l0 a l h0 h1 hm k 0 (by omega) (by omega)
  rw [List.drop_zero] at this
  rw [show ((0 : Nat) : Int) = 0 from rfl] at this
  rw [this]; rfl
theorem list_f (l : List Int) (m : Int) (h0 : 0 ≤ m) (h1 : m ≤ 4611686018427387904) (k : Nat) (hk : 8192 < k) : shawmref14_list.f k l m = some (chk l m) := by
  unfold shawmref14_list.f chk
  by_cases h : 8192 < l.length
  · rw [if_pos (by omega), if_pos h]
  · rw [if_neg (by omega), if_neg h, within_f m l h0 h1 (by omega) k (by omega)]
    simp only [Option.bind_some]
    cases l.any (outB m) <;> simp
end Go.Proofs.Ytafdiakomcejjaa.P
