/-
  No cell of these rows narrows 'for every input' (looked for: loops, veiled, ifaces, maps, wideKeys, modest, calm, conditions, laid).
  DERIVED. THE GIVEN ROWS OF THIS SEAT. 9 by the template 'for every input the law returns true; each argument reads behind the call as it read before'; 0 by the template 'total and deterministic' (their statements: YtnpheeendbchbaaTotals.lean).
  GIVEN WITH THE SEED: the statements are not yours to turn. If you find one false, say at which input.
  Laid BY PROGRAM, IN A SANDBOX (cutbox-rows.mjs): the forced cells as the released guide's own fill.sh prints them over the translation 5bfe8caa5005a6b2… (all of the seat's roots in one cut). By AI agents, Wed Nov 11 2026. No macro, syntax, notation, axiom, sorry.
-/
import Derived.Test.YtnpheeendbchbaaChecked
import GoSem.Claim
import GoSem.ClaimJoined
import GoSem.ClaimMapViews
import Derived.JoinedTies
import Derived.KernelRfl
namespace Go.Proofs.Ytnpheeendbchbaa
/- THE CELL 'sum', in the pinned program and in every row, IS THE sha256 OF THE DUMP (.gsa) THAT YtnpheeendbchbaaProg.lean LOADS. Nothing in Lean hashes anything: it is a label: what it is worth is what the hold of that sum in a sandbox is worth. -/
noncomputable def Try.pinned : Pinned := { name := "ytnpheeendbchbaa", sum := "5bfe8caa5005a6b2ab7f6a0e448847bbb35d01b54bc73179186a9a49de6f447b", checked := Try.checked }
namespace Rows
def none {H : Type} : Left H := { results := [], args := [] }

/-- 'shawmlaw05.RiceFolds': WHATEVER THE INPUT: true; the input reads as it did. -/
def riceFoldsSpec : ChangeSpec := { name := "riceFolds", fn := fun _ => fun
  | [d1, d2] => { results := [.lit (.bool true)], args := [d1, d2] }
  | _ => none }
def riceFoldsRow : OpenClaim := { program := "ytnpheeendbchbaa", sum := "5bfe8caa5005a6b2ab7f6a0e448847bbb35d01b54bc73179186a9a49de6f447b", func := "shawm/shawmlaw05.RiceFolds", spec := "riceFolds", unfollowed := true, recurses := true, apart := false }
def RiceFoldsSaid : Prop := riceFoldsRow.holds Try.pinned (OpenSpec.ofChange riceFoldsSpec)

/-- ITS FALSE NEIGHBOUR: 'it returns false'. Refute it at one input. -/
def riceFoldsWrong : ChangeSpec := { name := "riceFolds", fn := fun _ => fun
  | [d1, d2] => { results := [.lit (.bool false)], args := [d1, d2] }
  | _ => none }
def RiceFoldsWrongFalsely : Prop := riceFoldsRow.holds Try.pinned (OpenSpec.ofChange riceFoldsWrong)

/-- 'shawmlaw05.RiceGets': WHATEVER THE INPUT: true; the input reads as it did. -/
def riceGetsSpec : ChangeSpec := { name := "riceGets", fn := fun _ => fun
  | [d1, d2, d3] => { results := [.lit (.bool true)], args := [d1, d2, d3] }
  | _ => none }
def riceGetsRow : OpenClaim := { program := "ytnpheeendbchbaa", sum := "5bfe8caa5005a6b2ab7f6a0e448847bbb35d01b54bc73179186a9a49de6f447b", func := "shawm/shawmlaw05.RiceGets", spec := "riceGets", unfollowed := true, recurses := true, apart := false }
def RiceGetsSaid : Prop := riceGetsRow.holds Try.pinned (OpenSpec.ofChange riceGetsSpec)

/-- ITS FALSE NEIGHBOUR: 'it returns false'. Refute it at one input. -/
def riceGetsWrong : ChangeSpec := { name := "riceGets", fn := fun _ => fun
  | [d1, d2, d3] => { results := [.lit (.bool false)], args := [d1, d2, d3] }
  | _ => none }
def RiceGetsWrongFalsely : Prop := riceGetsRow.holds Try.pinned (OpenSpec.ofChange riceGetsWrong)

/-- 'shawmlaw05.RiceCosts': WHATEVER THE INPUT: true; the input reads as it did. -/
def riceCostsSpec : ChangeSpec := { name := "riceCosts", fn := fun _ => fun
  | [d1, d2] => { results := [.lit (.bool true)], args := [d1, d2] }
  | _ => none }
def riceCostsRow : OpenClaim := { program := "ytnpheeendbchbaa", sum := "5bfe8caa5005a6b2ab7f6a0e448847bbb35d01b54bc73179186a9a49de6f447b", func := "shawm/shawmlaw05.RiceCosts", spec := "riceCosts", unfollowed := true, recurses := true, apart := false }
def RiceCostsSaid : Prop := riceCostsRow.holds Try.pinned (OpenSpec.ofChange riceCostsSpec)

/-- ITS FALSE NEIGHBOUR: 'it returns false'. Refute it at one input. -/
def riceCostsWrong : ChangeSpec := { name := "riceCosts", fn := fun _ => fun
  | [d1, d2] => { results := [.lit (.bool false)], args := [d1, d2] }
  | _ => none }
def RiceCostsWrongFalsely : Prop := riceCostsRow.holds Try.pinned (OpenSpec.ofChange riceCostsWrong)

/-- 'shawmlaw05.RiceParts': WHATEVER THE INPUT: true; the input reads as it did. -/
def ricePartsSpec : ChangeSpec := { name := "riceParts", fn := fun _ => fun
  | [d1, d2, d3] => { results := [.lit (.bool true)], args := [d1, d2, d3] }
  | _ => none }
def ricePartsRow : OpenClaim := { program := "ytnpheeendbchbaa", sum := "5bfe8caa5005a6b2ab7f6a0e448847bbb35d01b54bc73179186a9a49de6f447b", func := "shawm/shawmlaw05.RiceParts", spec := "riceParts", unfollowed := true, recurses := true, apart := false }
def RicePartsSaid : Prop := ricePartsRow.holds Try.pinned (OpenSpec.ofChange ricePartsSpec)

/-- ITS FALSE NEIGHBOUR: 'it returns false'. Refute it at one input. -/
def ricePartsWrong : ChangeSpec := { name := "riceParts", fn := fun _ => fun
  | [d1, d2, d3] => { results := [.lit (.bool false)], args := [d1, d2, d3] }
  | _ => none }
def RicePartsWrongFalsely : Prop := ricePartsRow.holds Try.pinned (OpenSpec.ofChange ricePartsWrong)

/-- 'shawmlaw05.RicePuts': WHATEVER THE INPUT: true; the input reads as it did. -/
def ricePutsSpec : ChangeSpec := { name := "ricePuts", fn := fun _ => fun
  | [d1, d2, d3] => { results := [.lit (.bool true)], args := [d1, d2, d3] }
  | _ => none }
def ricePutsRow : OpenClaim := { program := "ytnpheeendbchbaa", sum := "5bfe8caa5005a6b2ab7f6a0e448847bbb35d01b54bc73179186a9a49de6f447b", func := "shawm/shawmlaw05.RicePuts", spec := "ricePuts", unfollowed := true, recurses := true, apart := false }
def RicePutsSaid : Prop := ricePutsRow.holds Try.pinned (OpenSpec.ofChange ricePutsSpec)

/-- ITS FALSE NEIGHBOUR: 'it returns false'. Refute it at one input. -/
def ricePutsWrong : ChangeSpec := { name := "ricePuts", fn := fun _ => fun
  | [d1, d2, d3] => { results := [.lit (.bool false)], args := [d1, d2, d3] }
  | _ => none }
def RicePutsWrongFalsely : Prop := ricePutsRow.holds Try.pinned (OpenSpec.ofChange ricePutsWrong)

/-- 'shawmlaw05.RiceLeast': WHATEVER THE INPUT: true; the input reads as it did. -/
def riceLeastSpec : ChangeSpec := { name := "riceLeast", fn := fun _ => fun
  | [d] => { results := [.lit (.bool true)], args := [d] }
  | _ => none }
def riceLeastRow : OpenClaim := { program := "ytnpheeendbchbaa", sum := "5bfe8caa5005a6b2ab7f6a0e448847bbb35d01b54bc73179186a9a49de6f447b", func := "shawm/shawmlaw05.RiceLeast", spec := "riceLeast", unfollowed := true, recurses := true, apart := false }
def RiceLeastSaid : Prop := riceLeastRow.holds Try.pinned (OpenSpec.ofChange riceLeastSpec)

/-- ITS FALSE NEIGHBOUR: 'it returns false'. Refute it at one input. -/
def riceLeastWrong : ChangeSpec := { name := "riceLeast", fn := fun _ => fun
  | [d] => { results := [.lit (.bool false)], args := [d] }
  | _ => none }
def RiceLeastWrongFalsely : Prop := riceLeastRow.holds Try.pinned (OpenSpec.ofChange riceLeastWrong)

/-- 'shawmlaw05.RiceWrites': WHATEVER THE INPUT: true; the input reads as it did. -/
def riceWritesSpec : ChangeSpec := { name := "riceWrites", fn := fun _ => fun
  | [d1, d2] => { results := [.lit (.bool true)], args := [d1, d2] }
  | _ => none }
def riceWritesRow : OpenClaim := { program := "ytnpheeendbchbaa", sum := "5bfe8caa5005a6b2ab7f6a0e448847bbb35d01b54bc73179186a9a49de6f447b", func := "shawm/shawmlaw05.RiceWrites", spec := "riceWrites", unfollowed := true, recurses := true, apart := false }
def RiceWritesSaid : Prop := riceWritesRow.holds Try.pinned (OpenSpec.ofChange riceWritesSpec)

/-- ITS FALSE NEIGHBOUR: 'it returns false'. Refute it at one input. -/
def riceWritesWrong : ChangeSpec := { name := "riceWrites", fn := fun _ => fun
  | [d1, d2] => { results := [.lit (.bool false)], args := [d1, d2] }
  | _ => none }
def RiceWritesWrongFalsely : Prop := riceWritesRow.holds Try.pinned (OpenSpec.ofChange riceWritesWrong)

/-- 'shawmlaw05.RiceReads': WHATEVER THE INPUT: true; the input reads as it did. -/
def riceReadsSpec : ChangeSpec := { name := "riceReads", fn := fun _ => fun
  | [d1, d2, d3] => { results := [.lit (.bool true)], args := [d1, d2, d3] }
  | _ => none }
def riceReadsRow : OpenClaim := { program := "ytnpheeendbchbaa", sum := "5bfe8caa5005a6b2ab7f6a0e448847bbb35d01b54bc73179186a9a49de6f447b", func := "shawm/shawmlaw05.RiceReads", spec := "riceReads", unfollowed := true, recurses := true, apart := false }
def RiceReadsSaid : Prop := riceReadsRow.holds Try.pinned (OpenSpec.ofChange riceReadsSpec)

/-- ITS FALSE NEIGHBOUR: 'it returns false'. Refute it at one input. -/
def riceReadsWrong : ChangeSpec := { name := "riceReads", fn := fun _ => fun
  | [d1, d2, d3] => { results := [.lit (.bool false)], args := [d1, d2, d3] }
  | _ => none }
def RiceReadsWrongFalsely : Prop := riceReadsRow.holds Try.pinned (OpenSpec.ofChange riceReadsWrong)

/-- 'shawmlaw05.RiceBack': WHATEVER THE INPUT: true; the input reads as it did. -/
def riceBackSpec : ChangeSpec := { name := "riceBack", fn := fun _ => fun
  | [d1, d2] => { results := [.lit (.bool true)], args := [d1, d2] }
  | _ => none }
def riceBackRow : OpenClaim := { program := "ytnpheeendbchbaa", sum := "5bfe8caa5005a6b2ab7f6a0e448847bbb35d01b54bc73179186a9a49de6f447b", func := "shawm/shawmlaw05.RiceBack", spec := "riceBack", unfollowed := true, recurses := true, apart := false }
def RiceBackSaid : Prop := riceBackRow.holds Try.pinned (OpenSpec.ofChange riceBackSpec)

/-- ITS FALSE NEIGHBOUR: 'it returns false'. Refute it at one input. -/
def riceBackWrong : ChangeSpec := { name := "riceBack", fn := fun _ => fun
  | [d1, d2] => { results := [.lit (.bool false)], args := [d1, d2] }
  | _ => none }
def RiceBackWrongFalsely : Prop := riceBackRow.holds Try.pinned (OpenSpec.ofChange riceBackWrong)

/- THE SECOND FORM. 'bulk': how many values and letters a reading holds, each counted each time it is reached (what is shared counts as often as it is met; a slice's spare places count too). A statement '..UptoSaid' is the law's where the arguments, and the package variables that the reading takes, are together of bulk at most 1048576: NARROWER than '..Said'. Prove '..Said' where nothing that the law and all that it calls make is longer than what came in: it says more and counts as full. Else prove '..UptoSaid'. A law counts once. -/
mutual
def uptoBulk {H : Type} : DataW H → Nat
  | .lit (.string bytes) => bytes.length + 1
  | .lit _ => 1
  | .nil => 1
  | .ptr d => uptoBulk d + 1
  | .slice elems spare => uptoBulkAll elems + uptoBulkAll spare + 1
  | .agg parts => uptoBulkAll parts + 1
  | .iface _ d => uptoBulk d + 1
  | .map entries => uptoBulkEntries entries + 1
  | .held _ => 1
def uptoBulkAll {H : Type} : List (DataW H) → Nat
  | [] => 0
  | d :: r => uptoBulk d + uptoBulkAll r
def uptoBulkEntries {H : Type} : List (Lit × DataW H) → Nat
  | [] => 0
  | x :: r => uptoBulkEntry x + uptoBulkEntries r
def uptoBulkEntry {H : Type} : Lit × DataW H → Nat
  | (.string bytes, d) => bytes.length + uptoBulk d + 1
  | (_, d) => uptoBulk d + 1
 end
def uptoSmall : (H : Type) → List (DataW H) → Bool := fun _ ds => decide (uptoBulkAll ds ≤ 1048576)
def OpenSpec.upto (s : _root_.Go.ChangeSpec) : _root_.Go.OpenSpec := { _root_.Go.OpenSpec.ofChange s with cond := some uptoSmall }

/-- 'shawmlaw05.RiceFolds', WHERE WHAT IT READS IS OF BULK AT MOST 1048576: true; the input reads as it did. -/
def riceFoldsUptoRow : OpenClaim := { program := "ytnpheeendbchbaa", sum := "5bfe8caa5005a6b2ab7f6a0e448847bbb35d01b54bc73179186a9a49de6f447b", func := "shawm/shawmlaw05.RiceFolds", spec := "riceFolds", unfollowed := true, recurses := true, apart := false, narrowed := true }
def RiceFoldsUptoSaid : Prop := riceFoldsUptoRow.holds Try.pinned (OpenSpec.upto riceFoldsSpec)

/-- 'shawmlaw05.RiceGets', WHERE WHAT IT READS IS OF BULK AT MOST 1048576: true; the input reads as it did. -/
def riceGetsUptoRow : OpenClaim := { program := "ytnpheeendbchbaa", sum := "5bfe8caa5005a6b2ab7f6a0e448847bbb35d01b54bc73179186a9a49de6f447b", func := "shawm/shawmlaw05.RiceGets", spec := "riceGets", unfollowed := true, recurses := true, apart := false, narrowed := true }
def RiceGetsUptoSaid : Prop := riceGetsUptoRow.holds Try.pinned (OpenSpec.upto riceGetsSpec)

/-- 'shawmlaw05.RiceCosts', WHERE WHAT IT READS IS OF BULK AT MOST 1048576: true; the input reads as it did. -/
def riceCostsUptoRow : OpenClaim := { program := "ytnpheeendbchbaa", sum := "5bfe8caa5005a6b2ab7f6a0e448847bbb35d01b54bc73179186a9a49de6f447b", func := "shawm/shawmlaw05.RiceCosts", spec := "riceCosts", unfollowed := true, recurses := true, apart := false, narrowed := true }
def RiceCostsUptoSaid : Prop := riceCostsUptoRow.holds Try.pinned (OpenSpec.upto riceCostsSpec)

/-- 'shawmlaw05.RiceParts', WHERE WHAT IT READS IS OF BULK AT MOST 1048576: true; the input reads as it did. -/
def ricePartsUptoRow : OpenClaim := { program := "ytnpheeendbchbaa", sum := "5bfe8caa5005a6b2ab7f6a0e448847bbb35d01b54bc73179186a9a49de6f447b", func := "shawm/shawmlaw05.RiceParts", spec := "riceParts", unfollowed := true, recurses := true, apart := false, narrowed := true }
def RicePartsUptoSaid : Prop := ricePartsUptoRow.holds Try.pinned (OpenSpec.upto ricePartsSpec)

/-- 'shawmlaw05.RicePuts', WHERE WHAT IT READS IS OF BULK AT MOST 1048576: true; the input reads as it did. -/
def ricePutsUptoRow : OpenClaim := { program := "ytnpheeendbchbaa", sum := "5bfe8caa5005a6b2ab7f6a0e448847bbb35d01b54bc73179186a9a49de6f447b", func := "shawm/shawmlaw05.RicePuts", spec := "ricePuts", unfollowed := true, recurses := true, apart := false, narrowed := true }
def RicePutsUptoSaid : Prop := ricePutsUptoRow.holds Try.pinned (OpenSpec.upto ricePutsSpec)

/-- 'shawmlaw05.RiceLeast', WHERE WHAT IT READS IS OF BULK AT MOST 1048576: true; the input reads as it did. -/
def riceLeastUptoRow : OpenClaim := { program := "ytnpheeendbchbaa", sum := "5bfe8caa5005a6b2ab7f6a0e448847bbb35d01b54bc73179186a9a49de6f447b", func := "shawm/shawmlaw05.RiceLeast", spec := "riceLeast", unfollowed := true, recurses := true, apart := false, narrowed := true }
def RiceLeastUptoSaid : Prop := riceLeastUptoRow.holds Try.pinned (OpenSpec.upto riceLeastSpec)

/-- 'shawmlaw05.RiceWrites', WHERE WHAT IT READS IS OF BULK AT MOST 1048576: true; the input reads as it did. -/
def riceWritesUptoRow : OpenClaim := { program := "ytnpheeendbchbaa", sum := "5bfe8caa5005a6b2ab7f6a0e448847bbb35d01b54bc73179186a9a49de6f447b", func := "shawm/shawmlaw05.RiceWrites", spec := "riceWrites", unfollowed := true, recurses := true, apart := false, narrowed := true }
def RiceWritesUptoSaid : Prop := riceWritesUptoRow.holds Try.pinned (OpenSpec.upto riceWritesSpec)

/-- 'shawmlaw05.RiceReads', WHERE WHAT IT READS IS OF BULK AT MOST 1048576: true; the input reads as it did. -/
def riceReadsUptoRow : OpenClaim := { program := "ytnpheeendbchbaa", sum := "5bfe8caa5005a6b2ab7f6a0e448847bbb35d01b54bc73179186a9a49de6f447b", func := "shawm/shawmlaw05.RiceReads", spec := "riceReads", unfollowed := true, recurses := true, apart := false, narrowed := true }
def RiceReadsUptoSaid : Prop := riceReadsUptoRow.holds Try.pinned (OpenSpec.upto riceReadsSpec)

/-- 'shawmlaw05.RiceBack', WHERE WHAT IT READS IS OF BULK AT MOST 1048576: true; the input reads as it did. -/
def riceBackUptoRow : OpenClaim := { program := "ytnpheeendbchbaa", sum := "5bfe8caa5005a6b2ab7f6a0e448847bbb35d01b54bc73179186a9a49de6f447b", func := "shawm/shawmlaw05.RiceBack", spec := "riceBack", unfollowed := true, recurses := true, apart := false, narrowed := true }
def RiceBackUptoSaid : Prop := riceBackUptoRow.holds Try.pinned (OpenSpec.upto riceBackSpec)

end Rows
end Go.Proofs.Ytnpheeendbchbaa
