/-
  No cell of these rows narrows 'for every input' (looked for: loops, veiled, ifaces, maps, wideKeys, modest, calm, conditions, laid).
  DERIVED. THE GIVEN ROWS OF THIS SEAT. 7 by the template 'for every input the law returns true; each argument reads behind the call as it read before'; 0 by the template 'total and deterministic' (their statements: YtafdiakomcejjaaTotals.lean).
  GIVEN WITH THE SEED: the statements are not yours to turn. If you find one false, say at which input.
  Laid BY PROGRAM, IN A SANDBOX (cutbox-rows.mjs): the forced cells as the released guide's own fill.sh prints them over the translation 10d8b45c250c5e00… (all of the seat's roots in one cut). By AI agents, Wed Nov 11 2026. No macro, syntax, notation, axiom, sorry.
-/
import Derived.Test.YtafdiakomcejjaaChecked
import GoSem.Claim
import GoSem.ClaimJoined
import GoSem.ClaimMapViews
import Derived.JoinedTies
import Derived.KernelRfl
namespace Go.Proofs.Ytafdiakomcejjaa
/- THE CELL 'sum', in the pinned program and in every row, IS THE sha256 OF THE DUMP (.gsa) THAT YtafdiakomcejjaaProg.lean LOADS. Nothing in Lean hashes anything: it is a label: what it is worth is what the hold of that sum in a sandbox is worth. -/
noncomputable def Try.pinned : Pinned := { name := "ytafdiakomcejjaa", sum := "10d8b45c250c5e0016d4bebe1d4a7cfef193d86dd163e32ba15f8b972259fc88", checked := Try.checked }
namespace Rows
def none {H : Type} : Left H := { results := [], args := [] }

/-- 'shawmlaw14.LinearDiffers': WHATEVER THE INPUT: true; the input reads as it did. -/
def linearDiffersSpec : ChangeSpec := { name := "linearDiffers", fn := fun _ => fun
  | [d1, d2] => { results := [.lit (.bool true)], args := [d1, d2] }
  | _ => none }
def linearDiffersRow : OpenClaim := { program := "ytafdiakomcejjaa", sum := "10d8b45c250c5e0016d4bebe1d4a7cfef193d86dd163e32ba15f8b972259fc88", func := "shawm/shawmlaw14.LinearDiffers", spec := "linearDiffers", unfollowed := true, recurses := true, apart := false }
def LinearDiffersSaid : Prop := linearDiffersRow.holds Try.pinned (OpenSpec.ofChange linearDiffersSpec)

/-- ITS FALSE NEIGHBOUR: 'it returns false'. Refute it at one input. -/
def linearDiffersWrong : ChangeSpec := { name := "linearDiffers", fn := fun _ => fun
  | [d1, d2] => { results := [.lit (.bool false)], args := [d1, d2] }
  | _ => none }
def LinearDiffersWrongFalsely : Prop := linearDiffersRow.holds Try.pinned (OpenSpec.ofChange linearDiffersWrong)

/-- 'shawmlaw14.LinearReflects': WHATEVER THE INPUT: true; the input reads as it did. -/
def linearReflectsSpec : ChangeSpec := { name := "linearReflects", fn := fun _ => fun
  | [d1, d2] => { results := [.lit (.bool true)], args := [d1, d2] }
  | _ => none }
def linearReflectsRow : OpenClaim := { program := "ytafdiakomcejjaa", sum := "10d8b45c250c5e0016d4bebe1d4a7cfef193d86dd163e32ba15f8b972259fc88", func := "shawm/shawmlaw14.LinearReflects", spec := "linearReflects", unfollowed := true, recurses := true, apart := false }
def LinearReflectsSaid : Prop := linearReflectsRow.holds Try.pinned (OpenSpec.ofChange linearReflectsSpec)

/-- ITS FALSE NEIGHBOUR: 'it returns false'. Refute it at one input. -/
def linearReflectsWrong : ChangeSpec := { name := "linearReflects", fn := fun _ => fun
  | [d1, d2] => { results := [.lit (.bool false)], args := [d1, d2] }
  | _ => none }
def LinearReflectsWrongFalsely : Prop := linearReflectsRow.holds Try.pinned (OpenSpec.ofChange linearReflectsWrong)

/-- 'shawmlaw14.LinearWeights': WHATEVER THE INPUT: true; the input reads as it did. -/
def linearWeightsSpec : ChangeSpec := { name := "linearWeights", fn := fun _ => fun
  | [d] => { results := [.lit (.bool true)], args := [d] }
  | _ => none }
def linearWeightsRow : OpenClaim := { program := "ytafdiakomcejjaa", sum := "10d8b45c250c5e0016d4bebe1d4a7cfef193d86dd163e32ba15f8b972259fc88", func := "shawm/shawmlaw14.LinearWeights", spec := "linearWeights", unfollowed := true, recurses := true, apart := false }
def LinearWeightsSaid : Prop := linearWeightsRow.holds Try.pinned (OpenSpec.ofChange linearWeightsSpec)

/-- ITS FALSE NEIGHBOUR: 'it returns false'. Refute it at one input. -/
def linearWeightsWrong : ChangeSpec := { name := "linearWeights", fn := fun _ => fun
  | [d] => { results := [.lit (.bool false)], args := [d] }
  | _ => none }
def LinearWeightsWrongFalsely : Prop := linearWeightsRow.holds Try.pinned (OpenSpec.ofChange linearWeightsWrong)

/-- 'shawmlaw14.LinearResiduals': WHATEVER THE INPUT: true; the input reads as it did. -/
def linearResidualsSpec : ChangeSpec := { name := "linearResiduals", fn := fun _ => fun
  | [d1, d2] => { results := [.lit (.bool true)], args := [d1, d2] }
  | _ => none }
def linearResidualsRow : OpenClaim := { program := "ytafdiakomcejjaa", sum := "10d8b45c250c5e0016d4bebe1d4a7cfef193d86dd163e32ba15f8b972259fc88", func := "shawm/shawmlaw14.LinearResiduals", spec := "linearResiduals", unfollowed := true, recurses := true, apart := false }
def LinearResidualsSaid : Prop := linearResidualsRow.holds Try.pinned (OpenSpec.ofChange linearResidualsSpec)

/-- ITS FALSE NEIGHBOUR: 'it returns false'. Refute it at one input. -/
def linearResidualsWrong : ChangeSpec := { name := "linearResiduals", fn := fun _ => fun
  | [d1, d2] => { results := [.lit (.bool false)], args := [d1, d2] }
  | _ => none }
def LinearResidualsWrongFalsely : Prop := linearResidualsRow.holds Try.pinned (OpenSpec.ofChange linearResidualsWrong)

/-- 'shawmlaw14.LinearUndone': WHATEVER THE INPUT: true; the input reads as it did. -/
def linearUndoneSpec : ChangeSpec := { name := "linearUndone", fn := fun _ => fun
  | [d1, d2, d3] => { results := [.lit (.bool true)], args := [d1, d2, d3] }
  | _ => none }
def linearUndoneRow : OpenClaim := { program := "ytafdiakomcejjaa", sum := "10d8b45c250c5e0016d4bebe1d4a7cfef193d86dd163e32ba15f8b972259fc88", func := "shawm/shawmlaw14.LinearUndone", spec := "linearUndone", unfollowed := true, recurses := true, apart := false }
def LinearUndoneSaid : Prop := linearUndoneRow.holds Try.pinned (OpenSpec.ofChange linearUndoneSpec)

/-- ITS FALSE NEIGHBOUR: 'it returns false'. Refute it at one input. -/
def linearUndoneWrong : ChangeSpec := { name := "linearUndone", fn := fun _ => fun
  | [d1, d2, d3] => { results := [.lit (.bool false)], args := [d1, d2, d3] }
  | _ => none }
def LinearUndoneWrongFalsely : Prop := linearUndoneRow.holds Try.pinned (OpenSpec.ofChange linearUndoneWrong)

/-- 'shawmlaw14.LinearNone': WHATEVER THE INPUT: true; the input reads as it did. -/
def linearNoneSpec : ChangeSpec := { name := "linearNone", fn := fun _ => fun
  | [d1, d2, d3] => { results := [.lit (.bool true)], args := [d1, d2, d3] }
  | _ => none }
def linearNoneRow : OpenClaim := { program := "ytafdiakomcejjaa", sum := "10d8b45c250c5e0016d4bebe1d4a7cfef193d86dd163e32ba15f8b972259fc88", func := "shawm/shawmlaw14.LinearNone", spec := "linearNone", unfollowed := true, recurses := true, apart := false }
def LinearNoneSaid : Prop := linearNoneRow.holds Try.pinned (OpenSpec.ofChange linearNoneSpec)

/-- ITS FALSE NEIGHBOUR: 'it returns false'. Refute it at one input. -/
def linearNoneWrong : ChangeSpec := { name := "linearNone", fn := fun _ => fun
  | [d1, d2, d3] => { results := [.lit (.bool false)], args := [d1, d2, d3] }
  | _ => none }
def LinearNoneWrongFalsely : Prop := linearNoneRow.holds Try.pinned (OpenSpec.ofChange linearNoneWrong)

/-- 'shawmlaw14.LinearConstant': WHATEVER THE INPUT: true; the input reads as it did. -/
def linearConstantSpec : ChangeSpec := { name := "linearConstant", fn := fun _ => fun
  | [d1, d2, d3] => { results := [.lit (.bool true)], args := [d1, d2, d3] }
  | _ => none }
def linearConstantRow : OpenClaim := { program := "ytafdiakomcejjaa", sum := "10d8b45c250c5e0016d4bebe1d4a7cfef193d86dd163e32ba15f8b972259fc88", func := "shawm/shawmlaw14.LinearConstant", spec := "linearConstant", unfollowed := true, recurses := true, apart := false }
def LinearConstantSaid : Prop := linearConstantRow.holds Try.pinned (OpenSpec.ofChange linearConstantSpec)

/-- ITS FALSE NEIGHBOUR: 'it returns false'. Refute it at one input. -/
def linearConstantWrong : ChangeSpec := { name := "linearConstant", fn := fun _ => fun
  | [d1, d2, d3] => { results := [.lit (.bool false)], args := [d1, d2, d3] }
  | _ => none }
def LinearConstantWrongFalsely : Prop := linearConstantRow.holds Try.pinned (OpenSpec.ofChange linearConstantWrong)

/- THE SECOND FORM. 'bulk': how many values and letters a reading holds, each counted each time it is reached (what is shared counts as often as it is met; a slice's spare places count too). A statement '..UptoSaid' is the law's where the arguments, and the package variables that the reading takes, are together of bulk at most 1048576: NARROWER than '..Said'. Prove '..Said' where nothing that the law and all that it calls make is longer than what came in: it says more and counts as full. Else prove '..UptoSaid'. A law counts once. -/
mutual
def uptoBulk {H : Type} : DataW H → Nat
  | .lit (.string bytes) => bytes.length + 1
  | .lit _ => 1
  | .nil => 1
  | .ptr d => uptoBulk d + 1
  | .slice elems spare => uptoBulkAll elems + uptoBulkAll spare + 1
  | .agg parts => uptoBulkAll parts + 1
  | .iface _ d => uptoBulk d + 1
  | .map entries => uptoBulkEntries entries + 1
  | .held _ => 1
def uptoBulkAll {H : Type} : List (DataW H) → Nat
  | [] => 0
  | d :: r => uptoBulk d + uptoBulkAll r
def uptoBulkEntries {H : Type} : List (Lit × DataW H) → Nat
  | [] => 0
  | x :: r => uptoBulkEntry x + uptoBulkEntries r
def uptoBulkEntry {H : Type} : Lit × DataW H → Nat
  | (.string bytes, d) => bytes.length + uptoBulk d + 1
  | (_, d) => uptoBulk d + 1
 end
def uptoSmall : (H : Type) → List (DataW H) → Bool := fun _ ds => decide (uptoBulkAll ds ≤ 1048576)
def OpenSpec.upto (s : _root_.Go.ChangeSpec) : _root_.Go.OpenSpec := { _root_.Go.OpenSpec.ofChange s with cond := some uptoSmall }

/-- 'shawmlaw14.LinearDiffers', WHERE WHAT IT READS IS OF BULK AT MOST 1048576: true; the input reads as it did. -/
def linearDiffersUptoRow : OpenClaim := { program := "ytafdiakomcejjaa", sum := "10d8b45c250c5e0016d4bebe1d4a7cfef193d86dd163e32ba15f8b972259fc88", func := "shawm/shawmlaw14.LinearDiffers", spec := "linearDiffers", unfollowed := true, recurses := true, apart := false, narrowed := true }
def LinearDiffersUptoSaid : Prop := linearDiffersUptoRow.holds Try.pinned (OpenSpec.upto linearDiffersSpec)

/-- 'shawmlaw14.LinearReflects', WHERE WHAT IT READS IS OF BULK AT MOST 1048576: true; the input reads as it did. -/
def linearReflectsUptoRow : OpenClaim := { program := "ytafdiakomcejjaa", sum := "10d8b45c250c5e0016d4bebe1d4a7cfef193d86dd163e32ba15f8b972259fc88", func := "shawm/shawmlaw14.LinearReflects", spec := "linearReflects", unfollowed := true, recurses := true, apart := false, narrowed := true }
def LinearReflectsUptoSaid : Prop := linearReflectsUptoRow.holds Try.pinned (OpenSpec.upto linearReflectsSpec)

/-- 'shawmlaw14.LinearWeights', WHERE WHAT IT READS IS OF BULK AT MOST 1048576: true; the input reads as it did. -/
def linearWeightsUptoRow : OpenClaim := { program := "ytafdiakomcejjaa", sum := "10d8b45c250c5e0016d4bebe1d4a7cfef193d86dd163e32ba15f8b972259fc88", func := "shawm/shawmlaw14.LinearWeights", spec := "linearWeights", unfollowed := true, recurses := true, apart := false, narrowed := true }
def LinearWeightsUptoSaid : Prop := linearWeightsUptoRow.holds Try.pinned (OpenSpec.upto linearWeightsSpec)

/-- 'shawmlaw14.LinearResiduals', WHERE WHAT IT READS IS OF BULK AT MOST 1048576: true; the input reads as it did. -/
def linearResidualsUptoRow : OpenClaim := { program := "ytafdiakomcejjaa", sum := "10d8b45c250c5e0016d4bebe1d4a7cfef193d86dd163e32ba15f8b972259fc88", func := "shawm/shawmlaw14.LinearResiduals", spec := "linearResiduals", unfollowed := true, recurses := true, apart := false, narrowed := true }
def LinearResidualsUptoSaid : Prop := linearResidualsUptoRow.holds Try.pinned (OpenSpec.upto linearResidualsSpec)

/-- 'shawmlaw14.LinearUndone', WHERE WHAT IT READS IS OF BULK AT MOST 1048576: true; the input reads as it did. -/
def linearUndoneUptoRow : OpenClaim := { program := "ytafdiakomcejjaa", sum := "10d8b45c250c5e0016d4bebe1d4a7cfef193d86dd163e32ba15f8b972259fc88", func := "shawm/shawmlaw14.LinearUndone", spec := "linearUndone", unfollowed := true, recurses := true, apart := false, narrowed := true }
def LinearUndoneUptoSaid : Prop := linearUndoneUptoRow.holds Try.pinned (OpenSpec.upto linearUndoneSpec)

/-- 'shawmlaw14.LinearNone', WHERE WHAT IT READS IS OF BULK AT MOST 1048576: true; the input reads as it did. -/
def linearNoneUptoRow : OpenClaim := { program := "ytafdiakomcejjaa", sum := "10d8b45c250c5e0016d4bebe1d4a7cfef193d86dd163e32ba15f8b972259fc88", func := "shawm/shawmlaw14.LinearNone", spec := "linearNone", unfollowed := true, recurses := true, apart := false, narrowed := true }
def LinearNoneUptoSaid : Prop := linearNoneUptoRow.holds Try.pinned (OpenSpec.upto linearNoneSpec)

/-- 'shawmlaw14.LinearConstant', WHERE WHAT IT READS IS OF BULK AT MOST 1048576: true; the input reads as it did. -/
def linearConstantUptoRow : OpenClaim := { program := "ytafdiakomcejjaa", sum := "10d8b45c250c5e0016d4bebe1d4a7cfef193d86dd163e32ba15f8b972259fc88", func := "shawm/shawmlaw14.LinearConstant", spec := "linearConstant", unfollowed := true, recurses := true, apart := false, narrowed := true }
def LinearConstantUptoSaid : Prop := linearConstantUptoRow.holds Try.pinned (OpenSpec.upto linearConstantSpec)

end Rows
end Go.Proofs.Ytafdiakomcejjaa
