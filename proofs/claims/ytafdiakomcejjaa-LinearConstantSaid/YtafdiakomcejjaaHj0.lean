/- What the closure of linear.reflector holds. -/
import Derived.Test.YtafdiakomcejjaaHi
import Derived.Test.YtafdiakomcejjaaWalk
import Derived.Deep.RegionHeld3
import Derived.Deep.DrawnRows
namespace Go.Proofs.Ytafdiakomcejjaa.P
open Go.RowKit Go.Shelf Go.Proofs.YtafdiakomcejjaaW.PrintWords Go.Proofs.YtafdiakomcejjaaW.PrintLast Go.Proofs.YtafdiakomcejjaaW.PrintMore
set_option linter.unusedVariables false
set_option linter.unusedSimpArgs false
attribute [local go_sem ↓] Go.wp_at_zero Go.wp_at_succ

/-- What the closure of linear.reflector holds. -/
def Refl (w : World) (base bu bv : Nat) (u v : List Int) : Prop :=
  ∃ U V : Value, w.heap[bu]? = some (.cells #[U] 22 (0, 0)) ∧ w.heap[bv]? = some (.cells #[V] 22 (0, 0)) ∧ Kd.R (Kd.int .i64) 3 w base (fun _ => True) U u ∧ Kd.R (Kd.int .i64) 3 w base (fun _ => True) V v ∧ bu ≠ bv

end Go.Proofs.Ytafdiakomcejjaa.P
