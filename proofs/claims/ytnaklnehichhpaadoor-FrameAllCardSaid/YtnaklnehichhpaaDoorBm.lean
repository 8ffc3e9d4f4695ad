/- The contracts of Reader.Take, Align, Open, Writer.Bytes. -/
import Derived.Test.YtnaklnehichhpaaDoorBl
namespace Go.Proofs.YtnaklnehichhpaaDoor.P
open Go.RowKit Go.Shelf Go.Proofs.YtnaklnehichhpaaDoor.Bits Go.Proofs.YtnaklnehichhpaaDoorW.PrintWords Go.Proofs.YtnaklnehichhpaaDoorW.PrintLast Go.Proofs.YtnaklnehichhpaaDoorW.PrintMore
set_option linter.unusedVariables false
set_option linter.unusedSimpArgs false
attribute [local go_sem ↓] Go.wp_at_zero Go.wp_at_succ
attribute [local go_sem] max2_int min2_int max_two min_two

def rAlign (L : List Int) (a : Nat) : Nat := min ((a + 7) / 8 * 8) L.length
def rTake (L : List Int) (a : Nat) (n : Int) : List Int × Int × Nat := if n < 0 then ([], 1, a) else if (L.length : Int) - a < n then ([], 3, a) else ((L.drop a).take n.toNat, 0, a + n.toNat)
def TakePost (w : World) (S : Nat → Prop) (p : Nat) (L : List Int) (r : List Int × Int × Nat) (e : Ending) (w' : World) : Prop :=
  ∃ v S', e = .returned (.tuple #[v, .int .i64 r.2.1]) ∧ RB S' w' v (pk r.1) ∧ (∀ k, S' k → w.heap.size ≤ k ∧ ∃ cells, w'.heap[k]? = some (.cells cells 5 (0, 0))) ∧ Rd w' S p L r.2.2 ∧ Fr (fun k => k = p) w w'
theorem RB_nil (S : Nat → Prop) (w : World) : RB S w (.slice none 0 0) (pk []) := by rw [pk_nil]; exact Kd.R_nil _ _ _ _ _
theorem val_one (b : Int) : val [b] = b := by simp [val]

end Go.Proofs.YtnaklnehichhpaaDoor.P
