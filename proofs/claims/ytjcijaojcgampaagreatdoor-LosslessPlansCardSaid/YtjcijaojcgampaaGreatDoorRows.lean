/-
  NARROWER THAN 'FOR EVERY INPUT', by the rows' own cells (each row's printed sentence says how): LosslessSmall: laid · LosslessShort: laid · LosslessPlans: laid · LosslessSizes: laid · LosslessWrites: laid · LosslessReads: laid · LosslessSamples: laid · LosslessBack: laid · LosslessLeast: laid.
  DERIVED. THE GIVEN ROWS OF THIS SEAT. 9 by the template 'for every input the law returns true; each argument reads behind the call as it read before'; 0 by the template 'total and deterministic' (their statements: YtjcijaojcgampaaGreatDoorTotals.lean).
  GIVEN WITH THE SEED: the statements are not yours to turn. If you find one false, say at which input.
  Laid BY PROGRAM, IN A SANDBOX (cutbox-rows.mjs): the forced cells as the released guide's own fill.sh prints them over the translation 361e04102f211083… (all of the seat's roots in one cut). By AI agents, Wed Nov 11 2026. No macro, syntax, notation, axiom, sorry.
-/
import Derived.Test.YtjcijaojcgampaaGreatDoorChecked
import GoSem.Claim
import GoSem.ClaimJoined
import GoSem.ClaimMapViews
import Derived.JoinedTies
import Derived.KernelRfl
namespace Go.Proofs.YtjcijaojcgampaaGreatDoor
/- THE CELL 'sum', in the pinned program and in every row, IS THE sha256 OF THE DUMP (.gsa) THAT YtjcijaojcgampaaGreatDoorProg.lean LOADS. Nothing in Lean hashes anything: it is a label: what it is worth is what the hold of that sum in a sandbox is worth. -/
noncomputable def Tryz.pinned : Pinned := { name := "ytjcijaojcgampaagreatdoor", sum := "361e04102f21108388464286f76dc02b15d665feb8acf8b994816fc58ef13edd", checked := Tryz.checked }
namespace Rows
def none {H : Type} : Left H := { results := [], args := [] }

/- WHAT THE LISTED PACKAGE-LEVEL VARIABLES READ AS WHEN THE CALL BEGINS. Each datum BY PROGRAM (the guide's laid-datum.mjs) off the statement by which the dump's own 'gosem.cut.vars' lays the variable. In a bare row this is a premise. The card (YtjcijaojcgampaaGreatDoorCards.lean) ties it to the program's text. -/
def laid_shawm_lossless_orders {H : Type} : DataW H := .agg [.agg [.lit (.int .i64 0), .lit (.int .i64 0)], .agg [.lit (.int .i64 0), .lit (.int .i64 0)], .agg [.lit (.int .i64 0), .lit (.int .i64 4)], .agg [.lit (.int .i64 1), .lit (.int .i64 12)]]

/-- 'shawmlaw20.LosslessSmall': WHATEVER THE INPUT: true; the input reads as it did. -/
def losslessSmallSpec : ChangeSpec := { name := "losslessSmall", fn := fun _ => fun
  | [d] => { results := [.lit (.bool true)], args := [d] }
  | _ => none }
def losslessSmallRow : OpenClaim := { program := "ytjcijaojcgampaagreatdoor", sum := "361e04102f21108388464286f76dc02b15d665feb8acf8b994816fc58ef13edd", func := "shawm/shawmlaw20.LosslessSmall", spec := "losslessSmall", unfollowed := true, recurses := true, named := ["shawm/lossless.orders"], apart := false, laid := [("shawm/lossless.orders", laid_shawm_lossless_orders)] }
def LosslessSmallSaid : Prop := losslessSmallRow.holds Tryz.pinned (OpenSpec.ofChange losslessSmallSpec)

/-- ITS FALSE NEIGHBOUR: 'it returns false'. Refute it at one input. -/
def losslessSmallWrong : ChangeSpec := { name := "losslessSmall", fn := fun _ => fun
  | [d] => { results := [.lit (.bool false)], args := [d] }
  | _ => none }
def LosslessSmallWrongFalsely : Prop := losslessSmallRow.holds Tryz.pinned (OpenSpec.ofChange losslessSmallWrong)

/-- 'shawmlaw20.LosslessShort': WHATEVER THE INPUT: true; the input reads as it did. -/
def losslessShortSpec : ChangeSpec := { name := "losslessShort", fn := fun _ => fun
  | [d1, d2, d3] => { results := [.lit (.bool true)], args := [d1, d2, d3] }
  | _ => none }
def losslessShortRow : OpenClaim := { program := "ytjcijaojcgampaagreatdoor", sum := "361e04102f21108388464286f76dc02b15d665feb8acf8b994816fc58ef13edd", func := "shawm/shawmlaw20.LosslessShort", spec := "losslessShort", unfollowed := true, recurses := true, named := ["shawm/lossless.orders"], apart := false, laid := [("shawm/lossless.orders", laid_shawm_lossless_orders)] }
def LosslessShortSaid : Prop := losslessShortRow.holds Tryz.pinned (OpenSpec.ofChange losslessShortSpec)

/-- ITS FALSE NEIGHBOUR: 'it returns false'. Refute it at one input. -/
def losslessShortWrong : ChangeSpec := { name := "losslessShort", fn := fun _ => fun
  | [d1, d2, d3] => { results := [.lit (.bool false)], args := [d1, d2, d3] }
  | _ => none }
def LosslessShortWrongFalsely : Prop := losslessShortRow.holds Tryz.pinned (OpenSpec.ofChange losslessShortWrong)

/-- 'shawmlaw20.LosslessPlans': WHATEVER THE INPUT: true; the input reads as it did. -/
def losslessPlansSpec : ChangeSpec := { name := "losslessPlans", fn := fun _ => fun
  | [d1, d2, d3] => { results := [.lit (.bool true)], args := [d1, d2, d3] }
  | _ => none }
def losslessPlansRow : OpenClaim := { program := "ytjcijaojcgampaagreatdoor", sum := "361e04102f21108388464286f76dc02b15d665feb8acf8b994816fc58ef13edd", func := "shawm/shawmlaw20.LosslessPlans", spec := "losslessPlans", unfollowed := true, recurses := true, named := ["shawm/lossless.orders"], apart := false, laid := [("shawm/lossless.orders", laid_shawm_lossless_orders)] }
def LosslessPlansSaid : Prop := losslessPlansRow.holds Tryz.pinned (OpenSpec.ofChange losslessPlansSpec)

/-- ITS FALSE NEIGHBOUR: 'it returns false'. Refute it at one input. -/
def losslessPlansWrong : ChangeSpec := { name := "losslessPlans", fn := fun _ => fun
  | [d1, d2, d3] => { results := [.lit (.bool false)], args := [d1, d2, d3] }
  | _ => none }
def LosslessPlansWrongFalsely : Prop := losslessPlansRow.holds Tryz.pinned (OpenSpec.ofChange losslessPlansWrong)

/-- 'shawmlaw20.LosslessSizes': WHATEVER THE INPUT: true; the input reads as it did. -/
def losslessSizesSpec : ChangeSpec := { name := "losslessSizes", fn := fun _ => fun
  | [d] => { results := [.lit (.bool true)], args := [d] }
  | _ => none }
def losslessSizesRow : OpenClaim := { program := "ytjcijaojcgampaagreatdoor", sum := "361e04102f21108388464286f76dc02b15d665feb8acf8b994816fc58ef13edd", func := "shawm/shawmlaw20.LosslessSizes", spec := "losslessSizes", unfollowed := true, recurses := true, named := ["shawm/lossless.orders"], apart := false, laid := [("shawm/lossless.orders", laid_shawm_lossless_orders)] }
def LosslessSizesSaid : Prop := losslessSizesRow.holds Tryz.pinned (OpenSpec.ofChange losslessSizesSpec)

/-- ITS FALSE NEIGHBOUR: 'it returns false'. Refute it at one input. -/
def losslessSizesWrong : ChangeSpec := { name := "losslessSizes", fn := fun _ => fun
  | [d] => { results := [.lit (.bool false)], args := [d] }
  | _ => none }
def LosslessSizesWrongFalsely : Prop := losslessSizesRow.holds Tryz.pinned (OpenSpec.ofChange losslessSizesWrong)

/-- 'shawmlaw20.LosslessWrites': WHATEVER THE INPUT: true; the input reads as it did. -/
def losslessWritesSpec : ChangeSpec := { name := "losslessWrites", fn := fun _ => fun
  | [d1, d2] => { results := [.lit (.bool true)], args := [d1, d2] }
  | _ => none }
def losslessWritesRow : OpenClaim := { program := "ytjcijaojcgampaagreatdoor", sum := "361e04102f21108388464286f76dc02b15d665feb8acf8b994816fc58ef13edd", func := "shawm/shawmlaw20.LosslessWrites", spec := "losslessWrites", unfollowed := true, recurses := true, named := ["shawm/lossless.orders"], apart := false, laid := [("shawm/lossless.orders", laid_shawm_lossless_orders)] }
def LosslessWritesSaid : Prop := losslessWritesRow.holds Tryz.pinned (OpenSpec.ofChange losslessWritesSpec)

/-- ITS FALSE NEIGHBOUR: 'it returns false'. Refute it at one input. -/
def losslessWritesWrong : ChangeSpec := { name := "losslessWrites", fn := fun _ => fun
  | [d1, d2] => { results := [.lit (.bool false)], args := [d1, d2] }
  | _ => none }
def LosslessWritesWrongFalsely : Prop := losslessWritesRow.holds Tryz.pinned (OpenSpec.ofChange losslessWritesWrong)

/-- 'shawmlaw20.LosslessReads': WHATEVER THE INPUT: true; the input reads as it did. -/
def losslessReadsSpec : ChangeSpec := { name := "losslessReads", fn := fun _ => fun
  | [d1, d2, d3] => { results := [.lit (.bool true)], args := [d1, d2, d3] }
  | _ => none }
def losslessReadsRow : OpenClaim := { program := "ytjcijaojcgampaagreatdoor", sum := "361e04102f21108388464286f76dc02b15d665feb8acf8b994816fc58ef13edd", func := "shawm/shawmlaw20.LosslessReads", spec := "losslessReads", unfollowed := true, recurses := true, named := ["shawm/lossless.orders"], apart := false, laid := [("shawm/lossless.orders", laid_shawm_lossless_orders)] }
def LosslessReadsSaid : Prop := losslessReadsRow.holds Tryz.pinned (OpenSpec.ofChange losslessReadsSpec)

/-- ITS FALSE NEIGHBOUR: 'it returns false'. Refute it at one input. -/
def losslessReadsWrong : ChangeSpec := { name := "losslessReads", fn := fun _ => fun
  | [d1, d2, d3] => { results := [.lit (.bool false)], args := [d1, d2, d3] }
  | _ => none }
def LosslessReadsWrongFalsely : Prop := losslessReadsRow.holds Tryz.pinned (OpenSpec.ofChange losslessReadsWrong)

/-- 'shawmlaw20.LosslessSamples': WHATEVER THE INPUT: true; the input reads as it did. -/
def losslessSamplesSpec : ChangeSpec := { name := "losslessSamples", fn := fun _ => fun
  | [d1, d2, d3] => { results := [.lit (.bool true)], args := [d1, d2, d3] }
  | _ => none }
def losslessSamplesRow : OpenClaim := { program := "ytjcijaojcgampaagreatdoor", sum := "361e04102f21108388464286f76dc02b15d665feb8acf8b994816fc58ef13edd", func := "shawm/shawmlaw20.LosslessSamples", spec := "losslessSamples", unfollowed := true, recurses := true, named := ["shawm/lossless.orders"], apart := false, laid := [("shawm/lossless.orders", laid_shawm_lossless_orders)] }
def LosslessSamplesSaid : Prop := losslessSamplesRow.holds Tryz.pinned (OpenSpec.ofChange losslessSamplesSpec)

/-- ITS FALSE NEIGHBOUR: 'it returns false'. Refute it at one input. -/
def losslessSamplesWrong : ChangeSpec := { name := "losslessSamples", fn := fun _ => fun
  | [d1, d2, d3] => { results := [.lit (.bool false)], args := [d1, d2, d3] }
  | _ => none }
def LosslessSamplesWrongFalsely : Prop := losslessSamplesRow.holds Tryz.pinned (OpenSpec.ofChange losslessSamplesWrong)

/-- 'shawmlaw20.LosslessBack': WHATEVER THE INPUT: true; the input reads as it did. -/
def losslessBackSpec : ChangeSpec := { name := "losslessBack", fn := fun _ => fun
  | [d1, d2] => { results := [.lit (.bool true)], args := [d1, d2] }
  | _ => none }
def losslessBackRow : OpenClaim := { program := "ytjcijaojcgampaagreatdoor", sum := "361e04102f21108388464286f76dc02b15d665feb8acf8b994816fc58ef13edd", func := "shawm/shawmlaw20.LosslessBack", spec := "losslessBack", unfollowed := true, recurses := true, named := ["shawm/lossless.orders"], apart := false, laid := [("shawm/lossless.orders", laid_shawm_lossless_orders)] }
def LosslessBackSaid : Prop := losslessBackRow.holds Tryz.pinned (OpenSpec.ofChange losslessBackSpec)

/-- ITS FALSE NEIGHBOUR: 'it returns false'. Refute it at one input. -/
def losslessBackWrong : ChangeSpec := { name := "losslessBack", fn := fun _ => fun
  | [d1, d2] => { results := [.lit (.bool false)], args := [d1, d2] }
  | _ => none }
def LosslessBackWrongFalsely : Prop := losslessBackRow.holds Tryz.pinned (OpenSpec.ofChange losslessBackWrong)

/-- 'shawmlaw20.LosslessLeast': WHATEVER THE INPUT: true; the input reads as it did. -/
def losslessLeastSpec : ChangeSpec := { name := "losslessLeast", fn := fun _ => fun
  | [d] => { results := [.lit (.bool true)], args := [d] }
  | _ => none }
def losslessLeastRow : OpenClaim := { program := "ytjcijaojcgampaagreatdoor", sum := "361e04102f21108388464286f76dc02b15d665feb8acf8b994816fc58ef13edd", func := "shawm/shawmlaw20.LosslessLeast", spec := "losslessLeast", unfollowed := true, recurses := true, named := ["shawm/lossless.orders"], apart := false, laid := [("shawm/lossless.orders", laid_shawm_lossless_orders)] }
def LosslessLeastSaid : Prop := losslessLeastRow.holds Tryz.pinned (OpenSpec.ofChange losslessLeastSpec)

/-- ITS FALSE NEIGHBOUR: 'it returns false'. Refute it at one input. -/
def losslessLeastWrong : ChangeSpec := { name := "losslessLeast", fn := fun _ => fun
  | [d] => { results := [.lit (.bool false)], args := [d] }
  | _ => none }
def LosslessLeastWrongFalsely : Prop := losslessLeastRow.holds Tryz.pinned (OpenSpec.ofChange losslessLeastWrong)

/- THE SECOND FORM. 'bulk': how many values and letters a reading holds, each counted each time it is reached (what is shared counts as often as it is met; a slice's spare places count too). A statement '..UptoSaid' is the law's where the arguments, and the package variables that the reading takes, are together of bulk at most 1048576: NARROWER than '..Said'. Prove '..Said' where nothing that the law and all that it calls make is longer than what came in: it says more and counts as full. Else prove '..UptoSaid'. A law counts once. -/
mutual
def uptoBulk {H : Type} : DataW H → Nat
  | .lit (.string bytes) => bytes.length + 1
  | .lit _ => 1
  | .nil => 1
  | .ptr d => uptoBulk d + 1
  | .slice elems spare => uptoBulkAll elems + uptoBulkAll spare + 1
  | .agg parts => uptoBulkAll parts + 1
  | .iface _ d => uptoBulk d + 1
  | .map entries => uptoBulkEntries entries + 1
  | .held _ => 1
def uptoBulkAll {H : Type} : List (DataW H) → Nat
  | [] => 0
  | d :: r => uptoBulk d + uptoBulkAll r
def uptoBulkEntries {H : Type} : List (Lit × DataW H) → Nat
  | [] => 0
  | x :: r => uptoBulkEntry x + uptoBulkEntries r
def uptoBulkEntry {H : Type} : Lit × DataW H → Nat
  | (.string bytes, d) => bytes.length + uptoBulk d + 1
  | (_, d) => uptoBulk d + 1
 end
def uptoSmall : (H : Type) → List (DataW H) → Bool := fun _ ds => decide (uptoBulkAll ds ≤ 1048576)
def OpenSpec.upto (s : _root_.Go.ChangeSpec) : _root_.Go.OpenSpec := { _root_.Go.OpenSpec.ofChange s with cond := some uptoSmall }

/-- 'shawmlaw20.LosslessSmall', WHERE WHAT IT READS IS OF BULK AT MOST 1048576: true; the input reads as it did. -/
def losslessSmallUptoRow : OpenClaim := { program := "ytjcijaojcgampaagreatdoor", sum := "361e04102f21108388464286f76dc02b15d665feb8acf8b994816fc58ef13edd", func := "shawm/shawmlaw20.LosslessSmall", spec := "losslessSmall", unfollowed := true, recurses := true, named := ["shawm/lossless.orders"], apart := false, laid := [("shawm/lossless.orders", laid_shawm_lossless_orders)], narrowed := true }
def LosslessSmallUptoSaid : Prop := losslessSmallUptoRow.holds Tryz.pinned (OpenSpec.upto losslessSmallSpec)

/-- 'shawmlaw20.LosslessShort', WHERE WHAT IT READS IS OF BULK AT MOST 1048576: true; the input reads as it did. -/
def losslessShortUptoRow : OpenClaim := { program := "ytjcijaojcgampaagreatdoor", sum := "361e04102f21108388464286f76dc02b15d665feb8acf8b994816fc58ef13edd", func := "shawm/shawmlaw20.LosslessShort", spec := "losslessShort", unfollowed := true, recurses := true, named := ["shawm/lossless.orders"], apart := false, laid := [("shawm/lossless.orders", laid_shawm_lossless_orders)], narrowed := true }
def LosslessShortUptoSaid : Prop := losslessShortUptoRow.holds Tryz.pinned (OpenSpec.upto losslessShortSpec)

/-- 'shawmlaw20.LosslessPlans', WHERE WHAT IT READS IS OF BULK AT MOST 1048576: true; the input reads as it did. -/
def losslessPlansUptoRow : OpenClaim := { program := "ytjcijaojcgampaagreatdoor", sum := "361e04102f21108388464286f76dc02b15d665feb8acf8b994816fc58ef13edd", func := "shawm/shawmlaw20.LosslessPlans", spec := "losslessPlans", unfollowed := true, recurses := true, named := ["shawm/lossless.orders"], apart := false, laid := [("shawm/lossless.orders", laid_shawm_lossless_orders)], narrowed := true }
def LosslessPlansUptoSaid : Prop := losslessPlansUptoRow.holds Tryz.pinned (OpenSpec.upto losslessPlansSpec)

/-- 'shawmlaw20.LosslessSizes', WHERE WHAT IT READS IS OF BULK AT MOST 1048576: true; the input reads as it did. -/
def losslessSizesUptoRow : OpenClaim := { program := "ytjcijaojcgampaagreatdoor", sum := "361e04102f21108388464286f76dc02b15d665feb8acf8b994816fc58ef13edd", func := "shawm/shawmlaw20.LosslessSizes", spec := "losslessSizes", unfollowed := true, recurses := true, named := ["shawm/lossless.orders"], apart := false, laid := [("shawm/lossless.orders", laid_shawm_lossless_orders)], narrowed := true }
def LosslessSizesUptoSaid : Prop := losslessSizesUptoRow.holds Tryz.pinned (OpenSpec.upto losslessSizesSpec)

/-- 'shawmlaw20.LosslessWrites', WHERE WHAT IT READS IS OF BULK AT MOST 1048576: true; the input reads as it did. -/
def losslessWritesUptoRow : OpenClaim := { program := "ytjcijaojcgampaagreatdoor", sum := "361e04102f21108388464286f76dc02b15d665feb8acf8b994816fc58ef13edd", func := "shawm/shawmlaw20.LosslessWrites", spec := "losslessWrites", unfollowed := true, recurses := true, named := ["shawm/lossless.orders"], apart := false, laid := [("shawm/lossless.orders", laid_shawm_lossless_orders)], narrowed := true }
def LosslessWritesUptoSaid : Prop := losslessWritesUptoRow.holds Tryz.pinned (OpenSpec.upto losslessWritesSpec)

/-- 'shawmlaw20.LosslessReads', WHERE WHAT IT READS IS OF BULK AT MOST 1048576: true; the input reads as it did. -/
def losslessReadsUptoRow : OpenClaim := { program := "ytjcijaojcgampaagreatdoor", sum := "361e04102f21108388464286f76dc02b15d665feb8acf8b994816fc58ef13edd", func := "shawm/shawmlaw20.LosslessReads", spec := "losslessReads", unfollowed := true, recurses := true, named := ["shawm/lossless.orders"], apart := false, laid := [("shawm/lossless.orders", laid_shawm_lossless_orders)], narrowed := true }
def LosslessReadsUptoSaid : Prop := losslessReadsUptoRow.holds Tryz.pinned (OpenSpec.upto losslessReadsSpec)

/-- 'shawmlaw20.LosslessSamples', WHERE WHAT IT READS IS OF BULK AT MOST 1048576: true; the input reads as it did. -/
def losslessSamplesUptoRow : OpenClaim := { program := "ytjcijaojcgampaagreatdoor", sum := "361e04102f21108388464286f76dc02b15d665feb8acf8b994816fc58ef13edd", func := "shawm/shawmlaw20.LosslessSamples", spec := "losslessSamples", unfollowed := true, recurses := true, named := ["shawm/lossless.orders"], apart := false, laid := [("shawm/lossless.orders", laid_shawm_lossless_orders)], narrowed := true }
def LosslessSamplesUptoSaid : Prop := losslessSamplesUptoRow.holds Tryz.pinned (OpenSpec.upto losslessSamplesSpec)

/-- 'shawmlaw20.LosslessBack', WHERE WHAT IT READS IS OF BULK AT MOST 1048576: true; the input reads as it did. -/
def losslessBackUptoRow : OpenClaim := { program := "ytjcijaojcgampaagreatdoor", sum := "361e04102f21108388464286f76dc02b15d665feb8acf8b994816fc58ef13edd", func := "shawm/shawmlaw20.LosslessBack", spec := "losslessBack", unfollowed := true, recurses := true, named := ["shawm/lossless.orders"], apart := false, laid := [("shawm/lossless.orders", laid_shawm_lossless_orders)], narrowed := true }
def LosslessBackUptoSaid : Prop := losslessBackUptoRow.holds Tryz.pinned (OpenSpec.upto losslessBackSpec)

/-- 'shawmlaw20.LosslessLeast', WHERE WHAT IT READS IS OF BULK AT MOST 1048576: true; the input reads as it did. -/
def losslessLeastUptoRow : OpenClaim := { program := "ytjcijaojcgampaagreatdoor", sum := "361e04102f21108388464286f76dc02b15d665feb8acf8b994816fc58ef13edd", func := "shawm/shawmlaw20.LosslessLeast", spec := "losslessLeast", unfollowed := true, recurses := true, named := ["shawm/lossless.orders"], apart := false, laid := [("shawm/lossless.orders", laid_shawm_lossless_orders)], narrowed := true }
def LosslessLeastUptoSaid : Prop := losslessLeastUptoRow.holds Tryz.pinned (OpenSpec.upto losslessLeastSpec)

end Rows
end Go.Proofs.YtjcijaojcgampaaGreatDoor
