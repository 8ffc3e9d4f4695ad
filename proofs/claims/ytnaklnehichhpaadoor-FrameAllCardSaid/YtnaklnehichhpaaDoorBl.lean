/- The contracts of New, Writer.Len, Reader.At, Left, Seek, Align, Unary, Gamma. -/
import Derived.Test.YtnaklnehichhpaaDoorBk
namespace Go.Proofs.YtnaklnehichhpaaDoor.P
open Go.RowKit Go.Shelf Go.Proofs.YtnaklnehichhpaaDoor.Bits Go.Proofs.YtnaklnehichhpaaDoorW.PrintWords Go.Proofs.YtnaklnehichhpaaDoorW.PrintLast Go.Proofs.YtnaklnehichhpaaDoorW.PrintMore
set_option linter.unusedVariables false
set_option linter.unusedSimpArgs false
attribute [local go_sem ↓] Go.wp_at_zero Go.wp_at_succ
attribute [local go_sem] max2_int min2_int max_two min_two

abbrev newWr : Obj := .cells #[.slice none 0 0, .int .i64 0] 82 (0, 0)
theorem New_any (w : World) : Calls Tryd.prog 26 #[] w fun e w' => e = .returned (.pointer (some ⟨w.heap.size, 0, none⟩)) ∧ w' = w.alloc newWr := by
  go_enter Tryd.func26, Tryd.ntmps26
  go_wp2
  go_ret
  simp
theorem Wr.new (w : World) : Wr (w.alloc newWr) (fun _ => False) w.heap.size [] :=
  ⟨⟨.slice none 0 0, World.alloc_heap_new w _, Kd.R_nil _ _ _ _ _⟩, is01_nil, fun _ h => h.elim⟩

def rSeek (L : List Int) (a : Nat) (n : Int) : Int × Nat := if n < 0 ∨ (L.length : Int) < n then (6, a) else (0, n.toNat)
def rUnary (L : List Int) (a : Nat) (n : Int) : Int × Int × Nat := if n < 0 ∨ 1000 < n then (0, 1, a) else rZeros L a n.toNat
def rGamma (L : List Int) (a : Nat) : Int × Int × Nat := if (rZeros L a 20).2.1 ≠ 0 then (0, (rZeros L a 20).2.1, a) else if (L.length : Int) - ((rZeros L a 20).2.2 : Int) < (rZeros L a 20).1 then (0, 3, a) else (2 ^ (rZeros L a 20).1.toNat + val ((L.drop (rZeros L a 20).2.2).take (rZeros L a 20).1.toNat), 0, (rZeros L a 20).2.2 + (rZeros L a 20).1.toNat)
theorem or_high (k : Nat) (x : Int) (hk : k ≤ 40) (h0 : 0 ≤ x) (h1 : x < 2 ^ k) : Go.bits BinOp.or IntKind.i64 (2 ^ k) x = 2 ^ k + x := by
  obtain ⟨X, rfl⟩ : ∃ X : Nat, x = X := ⟨x.toNat, by omega⟩
  have e : ((2 ^ k : Nat) : Int) = (2 : Int) ^ k := Int.natCast_pow 2 k
  have hX : X < 2 ^ k := by omega
  have hp : (2 : Nat) ^ k ≤ 2 ^ 40 := Nat.pow_le_pow_right (by omega) hk
  rw [← e, or_i64 _ _ (by omega) (by omega)]
  have h := Nat.two_pow_add_eq_or_of_lt hX 1
  rw [Nat.mul_one] at h
  rw [← h]
  norm_cast
theorem rZeros_cases (L : List Int) (a m : Nat) : (rZeros L a m = (0, 4, a) ∨ rZeros L a m = (0, 3, a)) ∨ ∃ z : Nat, z ≤ m ∧ a + z < L.length ∧ rZeros L a m = ((z : Int), 0, a + z + 1) := by
  unfold rZeros
  split
  · exact .inl (.inl rfl)
  · split
    · exact .inr ⟨_, by omega, ‹_›, rfl⟩
    · exact .inl (.inr rfl)

end Go.Proofs.YtnaklnehichhpaaDoor.P
