/-
  NARROWER THAN 'FOR EVERY INPUT', by the rows' own cells (each row's printed sentence says how): FrameWrites: laid · FrameReads: laid · FrameFinds: laid · FrameBack: laid · FrameDamage: laid · FrameAll: laid · FrameFound: laid.
  DERIVED. THE GIVEN ROWS OF THIS SEAT. 7 by the template 'for every input the law returns true; each argument reads behind the call as it read before'; 0 by the template 'total and deterministic' (their statements: YtnaklnehichhpaaDoorTotals.lean).
  GIVEN WITH THE SEED: the statements are not yours to turn. If you find one false, say at which input.
  Laid BY PROGRAM, IN A SANDBOX (cutbox-rows.mjs): the forced cells as the released guide's own fill.sh prints them over the translation 0fe369df2dce12c3… (all of the seat's roots in one cut). By AI agents, Wed Nov 11 2026. No macro, syntax, notation, axiom, sorry.
-/
import Derived.Test.YtnaklnehichhpaaDoorChecked
import GoSem.Claim
import GoSem.ClaimJoined
import GoSem.ClaimMapViews
import Derived.JoinedTies
import Derived.KernelRfl
namespace Go.Proofs.YtnaklnehichhpaaDoor
/- THE CELL 'sum', in the pinned program and in every row, IS THE sha256 OF THE DUMP (.gsa) THAT YtnaklnehichhpaaDoorProg.lean LOADS. Nothing in Lean hashes anything: it is a label: what it is worth is what the hold of that sum in a sandbox is worth. -/
noncomputable def Tryd.pinned : Pinned := { name := "ytnaklnehichhpaadoor", sum := "0fe369df2dce12c3ec2697e5b4fbcff7ab07018f86979206fdc71141cb28d596", checked := Tryd.checked }
namespace Rows
def none {H : Type} : Left H := { results := [], args := [] }

/- WHAT THE LISTED PACKAGE-LEVEL VARIABLES READ AS WHEN THE CALL BEGINS. Each datum BY PROGRAM (the guide's laid-datum.mjs) off the statement by which the dump's own 'gosem.cut.vars' lays the variable. In a bare row this is a premise. The card (YtnaklnehichhpaaDoorCards.lean) ties it to the program's text. -/
def laid_shawm_frame_rates {H : Type} : DataW H := .agg [.lit (.int .i64 8000), .lit (.int .i64 11025), .lit (.int .i64 12000), .lit (.int .i64 16000), .lit (.int .i64 22050), .lit (.int .i64 24000), .lit (.int .i64 32000), .lit (.int .i64 44100), .lit (.int .i64 48000)]

/-- 'shawmlaw22.FrameWrites': WHATEVER THE INPUT: true; the input reads as it did. -/
def frameWritesSpec : ChangeSpec := { name := "frameWrites", fn := fun _ => fun
  | [d1, d2] => { results := [.lit (.bool true)], args := [d1, d2] }
  | _ => none }
def frameWritesRow : OpenClaim := { program := "ytnaklnehichhpaadoor", sum := "0fe369df2dce12c3ec2697e5b4fbcff7ab07018f86979206fdc71141cb28d596", func := "shawm/shawmlaw22.FrameWrites", spec := "frameWrites", unfollowed := true, recurses := true, named := ["shawm/frame.rates"], apart := false, laid := [("shawm/frame.rates", laid_shawm_frame_rates)] }
def FrameWritesSaid : Prop := frameWritesRow.holds Tryd.pinned (OpenSpec.ofChange frameWritesSpec)

/-- ITS FALSE NEIGHBOUR: 'it returns false'. Refute it at one input. -/
def frameWritesWrong : ChangeSpec := { name := "frameWrites", fn := fun _ => fun
  | [d1, d2] => { results := [.lit (.bool false)], args := [d1, d2] }
  | _ => none }
def FrameWritesWrongFalsely : Prop := frameWritesRow.holds Tryd.pinned (OpenSpec.ofChange frameWritesWrong)

/-- 'shawmlaw22.FrameReads': WHATEVER THE INPUT: true; the input reads as it did. -/
def frameReadsSpec : ChangeSpec := { name := "frameReads", fn := fun _ => fun
  | [d1, d2] => { results := [.lit (.bool true)], args := [d1, d2] }
  | _ => none }
def frameReadsRow : OpenClaim := { program := "ytnaklnehichhpaadoor", sum := "0fe369df2dce12c3ec2697e5b4fbcff7ab07018f86979206fdc71141cb28d596", func := "shawm/shawmlaw22.FrameReads", spec := "frameReads", unfollowed := true, recurses := true, named := ["shawm/frame.rates"], apart := false, laid := [("shawm/frame.rates", laid_shawm_frame_rates)] }
def FrameReadsSaid : Prop := frameReadsRow.holds Tryd.pinned (OpenSpec.ofChange frameReadsSpec)

/-- ITS FALSE NEIGHBOUR: 'it returns false'. Refute it at one input. -/
def frameReadsWrong : ChangeSpec := { name := "frameReads", fn := fun _ => fun
  | [d1, d2] => { results := [.lit (.bool false)], args := [d1, d2] }
  | _ => none }
def FrameReadsWrongFalsely : Prop := frameReadsRow.holds Tryd.pinned (OpenSpec.ofChange frameReadsWrong)

/-- 'shawmlaw22.FrameFinds': WHATEVER THE INPUT: true; the input reads as it did. -/
def frameFindsSpec : ChangeSpec := { name := "frameFinds", fn := fun _ => fun
  | [d1, d2] => { results := [.lit (.bool true)], args := [d1, d2] }
  | _ => none }
def frameFindsRow : OpenClaim := { program := "ytnaklnehichhpaadoor", sum := "0fe369df2dce12c3ec2697e5b4fbcff7ab07018f86979206fdc71141cb28d596", func := "shawm/shawmlaw22.FrameFinds", spec := "frameFinds", unfollowed := true, recurses := true, named := ["shawm/frame.rates"], apart := false, laid := [("shawm/frame.rates", laid_shawm_frame_rates)] }
def FrameFindsSaid : Prop := frameFindsRow.holds Tryd.pinned (OpenSpec.ofChange frameFindsSpec)

/-- ITS FALSE NEIGHBOUR: 'it returns false'. Refute it at one input. -/
def frameFindsWrong : ChangeSpec := { name := "frameFinds", fn := fun _ => fun
  | [d1, d2] => { results := [.lit (.bool false)], args := [d1, d2] }
  | _ => none }
def FrameFindsWrongFalsely : Prop := frameFindsRow.holds Tryd.pinned (OpenSpec.ofChange frameFindsWrong)

/-- 'shawmlaw22.FrameBack': WHATEVER THE INPUT: true; the input reads as it did. -/
def frameBackSpec : ChangeSpec := { name := "frameBack", fn := fun _ => fun
  | [d1, d2, d3] => { results := [.lit (.bool true)], args := [d1, d2, d3] }
  | _ => none }
def frameBackRow : OpenClaim := { program := "ytnaklnehichhpaadoor", sum := "0fe369df2dce12c3ec2697e5b4fbcff7ab07018f86979206fdc71141cb28d596", func := "shawm/shawmlaw22.FrameBack", spec := "frameBack", unfollowed := true, recurses := true, named := ["shawm/frame.rates"], apart := false, laid := [("shawm/frame.rates", laid_shawm_frame_rates)] }
def FrameBackSaid : Prop := frameBackRow.holds Tryd.pinned (OpenSpec.ofChange frameBackSpec)

/-- ITS FALSE NEIGHBOUR: 'it returns false'. Refute it at one input. -/
def frameBackWrong : ChangeSpec := { name := "frameBack", fn := fun _ => fun
  | [d1, d2, d3] => { results := [.lit (.bool false)], args := [d1, d2, d3] }
  | _ => none }
def FrameBackWrongFalsely : Prop := frameBackRow.holds Tryd.pinned (OpenSpec.ofChange frameBackWrong)

/-- 'shawmlaw22.FrameDamage': WHATEVER THE INPUT: true; the input reads as it did. -/
def frameDamageSpec : ChangeSpec := { name := "frameDamage", fn := fun _ => fun
  | [d1, d2, d3] => { results := [.lit (.bool true)], args := [d1, d2, d3] }
  | _ => none }
def frameDamageRow : OpenClaim := { program := "ytnaklnehichhpaadoor", sum := "0fe369df2dce12c3ec2697e5b4fbcff7ab07018f86979206fdc71141cb28d596", func := "shawm/shawmlaw22.FrameDamage", spec := "frameDamage", unfollowed := true, recurses := true, named := ["shawm/frame.rates"], apart := false, laid := [("shawm/frame.rates", laid_shawm_frame_rates)] }
def FrameDamageSaid : Prop := frameDamageRow.holds Tryd.pinned (OpenSpec.ofChange frameDamageSpec)

/-- ITS FALSE NEIGHBOUR: 'it returns false'. Refute it at one input. -/
def frameDamageWrong : ChangeSpec := { name := "frameDamage", fn := fun _ => fun
  | [d1, d2, d3] => { results := [.lit (.bool false)], args := [d1, d2, d3] }
  | _ => none }
def FrameDamageWrongFalsely : Prop := frameDamageRow.holds Tryd.pinned (OpenSpec.ofChange frameDamageWrong)

/-- 'shawmlaw22.FrameAll': WHATEVER THE INPUT: true; the input reads as it did. -/
def frameAllSpec : ChangeSpec := { name := "frameAll", fn := fun _ => fun
  | [d] => { results := [.lit (.bool true)], args := [d] }
  | _ => none }
def frameAllRow : OpenClaim := { program := "ytnaklnehichhpaadoor", sum := "0fe369df2dce12c3ec2697e5b4fbcff7ab07018f86979206fdc71141cb28d596", func := "shawm/shawmlaw22.FrameAll", spec := "frameAll", unfollowed := true, recurses := true, named := ["shawm/frame.rates"], apart := false, laid := [("shawm/frame.rates", laid_shawm_frame_rates)] }
def FrameAllSaid : Prop := frameAllRow.holds Tryd.pinned (OpenSpec.ofChange frameAllSpec)

/-- ITS FALSE NEIGHBOUR: 'it returns false'. Refute it at one input. -/
def frameAllWrong : ChangeSpec := { name := "frameAll", fn := fun _ => fun
  | [d] => { results := [.lit (.bool false)], args := [d] }
  | _ => none }
def FrameAllWrongFalsely : Prop := frameAllRow.holds Tryd.pinned (OpenSpec.ofChange frameAllWrong)

/-- 'shawmlaw22.FrameFound': WHATEVER THE INPUT: true; the input reads as it did. -/
def frameFoundSpec : ChangeSpec := { name := "frameFound", fn := fun _ => fun
  | [d1, d2] => { results := [.lit (.bool true)], args := [d1, d2] }
  | _ => none }
def frameFoundRow : OpenClaim := { program := "ytnaklnehichhpaadoor", sum := "0fe369df2dce12c3ec2697e5b4fbcff7ab07018f86979206fdc71141cb28d596", func := "shawm/shawmlaw22.FrameFound", spec := "frameFound", unfollowed := true, recurses := true, named := ["shawm/frame.rates"], apart := false, laid := [("shawm/frame.rates", laid_shawm_frame_rates)] }
def FrameFoundSaid : Prop := frameFoundRow.holds Tryd.pinned (OpenSpec.ofChange frameFoundSpec)

/-- ITS FALSE NEIGHBOUR: 'it returns false'. Refute it at one input. -/
def frameFoundWrong : ChangeSpec := { name := "frameFound", fn := fun _ => fun
  | [d1, d2] => { results := [.lit (.bool false)], args := [d1, d2] }
  | _ => none }
def FrameFoundWrongFalsely : Prop := frameFoundRow.holds Tryd.pinned (OpenSpec.ofChange frameFoundWrong)

/- THE SECOND FORM. 'bulk': how many values and letters a reading holds, each counted each time it is reached (what is shared counts as often as it is met; a slice's spare places count too). A statement '..UptoSaid' is the law's where the arguments, and the package variables that the reading takes, are together of bulk at most 1048576: NARROWER than '..Said'. Prove '..Said' where nothing that the law and all that it calls make is longer than what came in: it says more and counts as full. Else prove '..UptoSaid'. A law counts once. -/
mutual
def uptoBulk {H : Type} : DataW H → Nat
  | .lit (.string bytes) => bytes.length + 1
  | .lit _ => 1
  | .nil => 1
  | .ptr d => uptoBulk d + 1
  | .slice elems spare => uptoBulkAll elems + uptoBulkAll spare + 1
  | .agg parts => uptoBulkAll parts + 1
  | .iface _ d => uptoBulk d + 1
  | .map entries => uptoBulkEntries entries + 1
  | .held _ => 1
def uptoBulkAll {H : Type} : List (DataW H) → Nat
  | [] => 0
  | d :: r => uptoBulk d + uptoBulkAll r
def uptoBulkEntries {H : Type} : List (Lit × DataW H) → Nat
  | [] => 0
  | x :: r => uptoBulkEntry x + uptoBulkEntries r
def uptoBulkEntry {H : Type} : Lit × DataW H → Nat
  | (.string bytes, d) => bytes.length + uptoBulk d + 1
  | (_, d) => uptoBulk d + 1
 end
def uptoSmall : (H : Type) → List (DataW H) → Bool := fun _ ds => decide (uptoBulkAll ds ≤ 1048576)
def OpenSpec.upto (s : _root_.Go.ChangeSpec) : _root_.Go.OpenSpec := { _root_.Go.OpenSpec.ofChange s with cond := some uptoSmall }

/-- 'shawmlaw22.FrameWrites', WHERE WHAT IT READS IS OF BULK AT MOST 1048576: true; the input reads as it did. -/
def frameWritesUptoRow : OpenClaim := { program := "ytnaklnehichhpaadoor", sum := "0fe369df2dce12c3ec2697e5b4fbcff7ab07018f86979206fdc71141cb28d596", func := "shawm/shawmlaw22.FrameWrites", spec := "frameWrites", unfollowed := true, recurses := true, named := ["shawm/frame.rates"], apart := false, laid := [("shawm/frame.rates", laid_shawm_frame_rates)], narrowed := true }
def FrameWritesUptoSaid : Prop := frameWritesUptoRow.holds Tryd.pinned (OpenSpec.upto frameWritesSpec)

/-- 'shawmlaw22.FrameReads', WHERE WHAT IT READS IS OF BULK AT MOST 1048576: true; the input reads as it did. -/
def frameReadsUptoRow : OpenClaim := { program := "ytnaklnehichhpaadoor", sum := "0fe369df2dce12c3ec2697e5b4fbcff7ab07018f86979206fdc71141cb28d596", func := "shawm/shawmlaw22.FrameReads", spec := "frameReads", unfollowed := true, recurses := true, named := ["shawm/frame.rates"], apart := false, laid := [("shawm/frame.rates", laid_shawm_frame_rates)], narrowed := true }
def FrameReadsUptoSaid : Prop := frameReadsUptoRow.holds Tryd.pinned (OpenSpec.upto frameReadsSpec)

/-- 'shawmlaw22.FrameFinds', WHERE WHAT IT READS IS OF BULK AT MOST 1048576: true; the input reads as it did. -/
def frameFindsUptoRow : OpenClaim := { program := "ytnaklnehichhpaadoor", sum := "0fe369df2dce12c3ec2697e5b4fbcff7ab07018f86979206fdc71141cb28d596", func := "shawm/shawmlaw22.FrameFinds", spec := "frameFinds", unfollowed := true, recurses := true, named := ["shawm/frame.rates"], apart := false, laid := [("shawm/frame.rates", laid_shawm_frame_rates)], narrowed := true }
def FrameFindsUptoSaid : Prop := frameFindsUptoRow.holds Tryd.pinned (OpenSpec.upto frameFindsSpec)

/-- 'shawmlaw22.FrameBack', WHERE WHAT IT READS IS OF BULK AT MOST 1048576: true; the input reads as it did. -/
def frameBackUptoRow : OpenClaim := { program := "ytnaklnehichhpaadoor", sum := "0fe369df2dce12c3ec2697e5b4fbcff7ab07018f86979206fdc71141cb28d596", func := "shawm/shawmlaw22.FrameBack", spec := "frameBack", unfollowed := true, recurses := true, named := ["shawm/frame.rates"], apart := false, laid := [("shawm/frame.rates", laid_shawm_frame_rates)], narrowed := true }
def FrameBackUptoSaid : Prop := frameBackUptoRow.holds Tryd.pinned (OpenSpec.upto frameBackSpec)

/-- 'shawmlaw22.FrameDamage', WHERE WHAT IT READS IS OF BULK AT MOST 1048576: true; the input reads as it did. -/
def frameDamageUptoRow : OpenClaim := { program := "ytnaklnehichhpaadoor", sum := "0fe369df2dce12c3ec2697e5b4fbcff7ab07018f86979206fdc71141cb28d596", func := "shawm/shawmlaw22.FrameDamage", spec := "frameDamage", unfollowed := true, recurses := true, named := ["shawm/frame.rates"], apart := false, laid := [("shawm/frame.rates", laid_shawm_frame_rates)], narrowed := true }
def FrameDamageUptoSaid : Prop := frameDamageUptoRow.holds Tryd.pinned (OpenSpec.upto frameDamageSpec)

/-- 'shawmlaw22.FrameAll', WHERE WHAT IT READS IS OF BULK AT MOST 1048576: true; the input reads as it did. -/
def frameAllUptoRow : OpenClaim := { program := "ytnaklnehichhpaadoor", sum := "0fe369df2dce12c3ec2697e5b4fbcff7ab07018f86979206fdc71141cb28d596", func := "shawm/shawmlaw22.FrameAll", spec := "frameAll", unfollowed := true, recurses := true, named := ["shawm/frame.rates"], apart := false, laid := [("shawm/frame.rates", laid_shawm_frame_rates)], narrowed := true }
def FrameAllUptoSaid : Prop := frameAllUptoRow.holds Tryd.pinned (OpenSpec.upto frameAllSpec)

/-- 'shawmlaw22.FrameFound', WHERE WHAT IT READS IS OF BULK AT MOST 1048576: true; the input reads as it did. -/
def frameFoundUptoRow : OpenClaim := { program := "ytnaklnehichhpaadoor", sum := "0fe369df2dce12c3ec2697e5b4fbcff7ab07018f86979206fdc71141cb28d596", func := "shawm/shawmlaw22.FrameFound", spec := "frameFound", unfollowed := true, recurses := true, named := ["shawm/frame.rates"], apart := false, laid := [("shawm/frame.rates", laid_shawm_frame_rates)], narrowed := true }
def FrameFoundUptoSaid : Prop := frameFoundUptoRow.holds Tryd.pinned (OpenSpec.upto frameFoundSpec)

end Rows
end Go.Proofs.YtnaklnehichhpaaDoor
