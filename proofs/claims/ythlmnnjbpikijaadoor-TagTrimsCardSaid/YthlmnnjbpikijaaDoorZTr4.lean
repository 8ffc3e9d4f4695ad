/- A region whose first operations read or call quietly: the world folded. -/
import Derived.WalkKit
import Derived.Below
import Derived.StillTailTactics
import Derived.OrdersIn
import Derived.TacticsInMore
import Derived.OwnWalkIn
section
namespace Go.Proofs.YthlmnnjbpikijaaDoor
/-- Reads and quiet calls, then a forced tail; the world folded. -/
theorem wp_still {P : Program} {id : Nat} {Q : Exit → Act → World → Prop} {a : Act} {w : World} {l : List Oper} (n : Nat) (hm : P.follows .mixedOrders = true) (hB : Region.lexTailB .any l.toArray n = true)
    (h : wpStill P l.toArray w.drew (fun a' => wpList P l.toArray Q (l.drop n) a' w.drew) (l.take n) a) : (Code.region id l.toArray true).wp P Q a w := wp_region_still_tail n hm hB h
end Go.Proofs.YthlmnnjbpikijaaDoor
end
