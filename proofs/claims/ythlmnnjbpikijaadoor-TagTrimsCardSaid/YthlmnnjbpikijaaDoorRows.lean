/-
  NARROWER THAN 'FOR EVERY INPUT', by the rows' own cells (each row's printed sentence says how): TagWrites: laid · TagReads: laid · TagStuffs: laid · TagSets: laid · TagTrims: laid · TagBack: laid · TagFields: laid · TagExact: laid.
  DERIVED. THE GIVEN ROWS OF THIS SEAT. 8 by the template 'for every input the law returns true; each argument reads behind the call as it read before'; 0 by the template 'total and deterministic' (their statements: YthlmnnjbpikijaaDoorTotals.lean).
  GIVEN WITH THE SEED: the statements are not yours to turn. If you find one false, say at which input.
  Laid BY PROGRAM, IN A SANDBOX (cutbox-rows.mjs): the forced cells as the released guide's own fill.sh prints them over the translation 2dd9a74ac76ffe61… (all of the seat's roots in one cut). By AI agents, Wed Nov 11 2026. No macro, syntax, notation, axiom, sorry.
-/
import Derived.Test.YthlmnnjbpikijaaDoorChecked
import GoSem.Claim
import GoSem.ClaimJoined
import GoSem.ClaimMapViews
import Derived.JoinedTies
import Derived.KernelRfl
namespace Go.Proofs.YthlmnnjbpikijaaDoor
/- THE CELL 'sum', in the pinned program and in every row, IS THE sha256 OF THE DUMP (.gsa) THAT YthlmnnjbpikijaaDoorProg.lean LOADS. Nothing in Lean hashes anything: it is a label: what it is worth is what the hold of that sum in a sandbox is worth. -/
noncomputable def Tryd.pinned : Pinned := { name := "ythlmnnjbpikijaadoor", sum := "2dd9a74ac76ffe61ee5cc953bcd57f56ce6b23de4aea4b11368599f2bd4f604c", checked := Tryd.checked }
namespace Rows
def none {H : Type} : Left H := { results := [], args := [] }

/- WHAT THE LISTED PACKAGE-LEVEL VARIABLES READ AS WHEN THE CALL BEGINS. Each datum BY PROGRAM (the guide's laid-datum.mjs) off the statement by which the dump's own 'gosem.cut.vars' lays the variable. In a bare row this is a premise. The card (YthlmnnjbpikijaaDoorCards.lean) ties it to the program's text. -/
def laid_shawm_tag_rates {H : Type} : DataW H := .agg [.lit (.int .i64 8000), .lit (.int .i64 11025), .lit (.int .i64 12000), .lit (.int .i64 16000), .lit (.int .i64 22050), .lit (.int .i64 24000), .lit (.int .i64 32000), .lit (.int .i64 44100), .lit (.int .i64 48000)]

/-- 'shawmlaw27.TagWrites': WHATEVER THE INPUT: true; the input reads as it did. -/
def tagWritesSpec : ChangeSpec := { name := "tagWrites", fn := fun _ => fun
  | [d] => { results := [.lit (.bool true)], args := [d] }
  | _ => none }
def tagWritesRow : OpenClaim := { program := "ythlmnnjbpikijaadoor", sum := "2dd9a74ac76ffe61ee5cc953bcd57f56ce6b23de4aea4b11368599f2bd4f604c", func := "shawm/shawmlaw27.TagWrites", spec := "tagWrites", unfollowed := true, recurses := true, named := ["shawm/tag.rates"], plainKeys := false, apart := false, laid := [("shawm/tag.rates", laid_shawm_tag_rates)] }
def TagWritesSaid : Prop := tagWritesRow.holds Tryd.pinned (OpenSpec.ofChange tagWritesSpec)

/-- ITS FALSE NEIGHBOUR: 'it returns false'. Refute it at one input. -/
def tagWritesWrong : ChangeSpec := { name := "tagWrites", fn := fun _ => fun
  | [d] => { results := [.lit (.bool false)], args := [d] }
  | _ => none }
def TagWritesWrongFalsely : Prop := tagWritesRow.holds Tryd.pinned (OpenSpec.ofChange tagWritesWrong)

/-- 'shawmlaw27.TagReads': WHATEVER THE INPUT: true; the input reads as it did. -/
def tagReadsSpec : ChangeSpec := { name := "tagReads", fn := fun _ => fun
  | [d] => { results := [.lit (.bool true)], args := [d] }
  | _ => none }
def tagReadsRow : OpenClaim := { program := "ythlmnnjbpikijaadoor", sum := "2dd9a74ac76ffe61ee5cc953bcd57f56ce6b23de4aea4b11368599f2bd4f604c", func := "shawm/shawmlaw27.TagReads", spec := "tagReads", unfollowed := true, recurses := true, named := ["shawm/tag.rates"], plainKeys := false, apart := false, laid := [("shawm/tag.rates", laid_shawm_tag_rates)] }
def TagReadsSaid : Prop := tagReadsRow.holds Tryd.pinned (OpenSpec.ofChange tagReadsSpec)

/-- ITS FALSE NEIGHBOUR: 'it returns false'. Refute it at one input. -/
def tagReadsWrong : ChangeSpec := { name := "tagReads", fn := fun _ => fun
  | [d] => { results := [.lit (.bool false)], args := [d] }
  | _ => none }
def TagReadsWrongFalsely : Prop := tagReadsRow.holds Tryd.pinned (OpenSpec.ofChange tagReadsWrong)

/-- 'shawmlaw27.TagStuffs': WHATEVER THE INPUT: true; the input reads as it did. -/
def tagStuffsSpec : ChangeSpec := { name := "tagStuffs", fn := fun _ => fun
  | [d] => { results := [.lit (.bool true)], args := [d] }
  | _ => none }
def tagStuffsRow : OpenClaim := { program := "ythlmnnjbpikijaadoor", sum := "2dd9a74ac76ffe61ee5cc953bcd57f56ce6b23de4aea4b11368599f2bd4f604c", func := "shawm/shawmlaw27.TagStuffs", spec := "tagStuffs", unfollowed := true, recurses := true, named := ["shawm/tag.rates"], plainKeys := false, apart := false, laid := [("shawm/tag.rates", laid_shawm_tag_rates)] }
def TagStuffsSaid : Prop := tagStuffsRow.holds Tryd.pinned (OpenSpec.ofChange tagStuffsSpec)

/-- ITS FALSE NEIGHBOUR: 'it returns false'. Refute it at one input. -/
def tagStuffsWrong : ChangeSpec := { name := "tagStuffs", fn := fun _ => fun
  | [d] => { results := [.lit (.bool false)], args := [d] }
  | _ => none }
def TagStuffsWrongFalsely : Prop := tagStuffsRow.holds Tryd.pinned (OpenSpec.ofChange tagStuffsWrong)

/-- 'shawmlaw27.TagSets': WHATEVER THE INPUT: true; the input reads as it did. -/
def tagSetsSpec : ChangeSpec := { name := "tagSets", fn := fun _ => fun
  | [d1, d2, d3] => { results := [.lit (.bool true)], args := [d1, d2, d3] }
  | _ => none }
def tagSetsRow : OpenClaim := { program := "ythlmnnjbpikijaadoor", sum := "2dd9a74ac76ffe61ee5cc953bcd57f56ce6b23de4aea4b11368599f2bd4f604c", func := "shawm/shawmlaw27.TagSets", spec := "tagSets", unfollowed := true, recurses := true, named := ["shawm/tag.rates"], plainKeys := false, apart := false, laid := [("shawm/tag.rates", laid_shawm_tag_rates)] }
def TagSetsSaid : Prop := tagSetsRow.holds Tryd.pinned (OpenSpec.ofChange tagSetsSpec)

/-- ITS FALSE NEIGHBOUR: 'it returns false'. Refute it at one input. -/
def tagSetsWrong : ChangeSpec := { name := "tagSets", fn := fun _ => fun
  | [d1, d2, d3] => { results := [.lit (.bool false)], args := [d1, d2, d3] }
  | _ => none }
def TagSetsWrongFalsely : Prop := tagSetsRow.holds Tryd.pinned (OpenSpec.ofChange tagSetsWrong)

/-- 'shawmlaw27.TagTrims': WHATEVER THE INPUT: true; the input reads as it did. -/
def tagTrimsSpec : ChangeSpec := { name := "tagTrims", fn := fun _ => fun
  | [d1, d2, d3] => { results := [.lit (.bool true)], args := [d1, d2, d3] }
  | _ => none }
def tagTrimsRow : OpenClaim := { program := "ythlmnnjbpikijaadoor", sum := "2dd9a74ac76ffe61ee5cc953bcd57f56ce6b23de4aea4b11368599f2bd4f604c", func := "shawm/shawmlaw27.TagTrims", spec := "tagTrims", unfollowed := true, recurses := true, named := ["shawm/tag.rates"], plainKeys := false, apart := false, laid := [("shawm/tag.rates", laid_shawm_tag_rates)] }
def TagTrimsSaid : Prop := tagTrimsRow.holds Tryd.pinned (OpenSpec.ofChange tagTrimsSpec)

/-- ITS FALSE NEIGHBOUR: 'it returns false'. Refute it at one input. -/
def tagTrimsWrong : ChangeSpec := { name := "tagTrims", fn := fun _ => fun
  | [d1, d2, d3] => { results := [.lit (.bool false)], args := [d1, d2, d3] }
  | _ => none }
def TagTrimsWrongFalsely : Prop := tagTrimsRow.holds Tryd.pinned (OpenSpec.ofChange tagTrimsWrong)

/-- 'shawmlaw27.TagBack': WHATEVER THE INPUT: true; the input reads as it did. -/
def tagBackSpec : ChangeSpec := { name := "tagBack", fn := fun _ => fun
  | [d1, d2, d3] => { results := [.lit (.bool true)], args := [d1, d2, d3] }
  | _ => none }
def tagBackRow : OpenClaim := { program := "ythlmnnjbpikijaadoor", sum := "2dd9a74ac76ffe61ee5cc953bcd57f56ce6b23de4aea4b11368599f2bd4f604c", func := "shawm/shawmlaw27.TagBack", spec := "tagBack", unfollowed := true, recurses := true, named := ["shawm/tag.rates"], plainKeys := false, apart := false, laid := [("shawm/tag.rates", laid_shawm_tag_rates)] }
def TagBackSaid : Prop := tagBackRow.holds Tryd.pinned (OpenSpec.ofChange tagBackSpec)

/-- ITS FALSE NEIGHBOUR: 'it returns false'. Refute it at one input. -/
def tagBackWrong : ChangeSpec := { name := "tagBack", fn := fun _ => fun
  | [d1, d2, d3] => { results := [.lit (.bool false)], args := [d1, d2, d3] }
  | _ => none }
def TagBackWrongFalsely : Prop := tagBackRow.holds Tryd.pinned (OpenSpec.ofChange tagBackWrong)

/-- 'shawmlaw27.TagFields': WHATEVER THE INPUT: true; the input reads as it did. -/
def tagFieldsSpec : ChangeSpec := { name := "tagFields", fn := fun _ => fun
  | [d1, d2, d3] => { results := [.lit (.bool true)], args := [d1, d2, d3] }
  | _ => none }
def tagFieldsRow : OpenClaim := { program := "ythlmnnjbpikijaadoor", sum := "2dd9a74ac76ffe61ee5cc953bcd57f56ce6b23de4aea4b11368599f2bd4f604c", func := "shawm/shawmlaw27.TagFields", spec := "tagFields", unfollowed := true, recurses := true, named := ["shawm/tag.rates"], plainKeys := false, apart := false, laid := [("shawm/tag.rates", laid_shawm_tag_rates)] }
def TagFieldsSaid : Prop := tagFieldsRow.holds Tryd.pinned (OpenSpec.ofChange tagFieldsSpec)

/-- ITS FALSE NEIGHBOUR: 'it returns false'. Refute it at one input. -/
def tagFieldsWrong : ChangeSpec := { name := "tagFields", fn := fun _ => fun
  | [d1, d2, d3] => { results := [.lit (.bool false)], args := [d1, d2, d3] }
  | _ => none }
def TagFieldsWrongFalsely : Prop := tagFieldsRow.holds Tryd.pinned (OpenSpec.ofChange tagFieldsWrong)

/-- 'shawmlaw27.TagExact': WHATEVER THE INPUT: true; the input reads as it did. -/
def tagExactSpec : ChangeSpec := { name := "tagExact", fn := fun _ => fun
  | [d1, d2] => { results := [.lit (.bool true)], args := [d1, d2] }
  | _ => none }
def tagExactRow : OpenClaim := { program := "ythlmnnjbpikijaadoor", sum := "2dd9a74ac76ffe61ee5cc953bcd57f56ce6b23de4aea4b11368599f2bd4f604c", func := "shawm/shawmlaw27.TagExact", spec := "tagExact", unfollowed := true, recurses := true, named := ["shawm/tag.rates"], plainKeys := false, apart := false, laid := [("shawm/tag.rates", laid_shawm_tag_rates)] }
def TagExactSaid : Prop := tagExactRow.holds Tryd.pinned (OpenSpec.ofChange tagExactSpec)

/-- ITS FALSE NEIGHBOUR: 'it returns false'. Refute it at one input. -/
def tagExactWrong : ChangeSpec := { name := "tagExact", fn := fun _ => fun
  | [d1, d2] => { results := [.lit (.bool false)], args := [d1, d2] }
  | _ => none }
def TagExactWrongFalsely : Prop := tagExactRow.holds Tryd.pinned (OpenSpec.ofChange tagExactWrong)

/- THE SECOND FORM. 'bulk': how many values and letters a reading holds, each counted each time it is reached (what is shared counts as often as it is met; a slice's spare places count too). A statement '..UptoSaid' is the law's where the arguments, and the package variables that the reading takes, are together of bulk at most 1048576: NARROWER than '..Said'. Prove '..Said' where nothing that the law and all that it calls make is longer than what came in: it says more and counts as full. Else prove '..UptoSaid'. A law counts once. -/
mutual
def uptoBulk {H : Type} : DataW H → Nat
  | .lit (.string bytes) => bytes.length + 1
  | .lit _ => 1
  | .nil => 1
  | .ptr d => uptoBulk d + 1
  | .slice elems spare => uptoBulkAll elems + uptoBulkAll spare + 1
  | .agg parts => uptoBulkAll parts + 1
  | .iface _ d => uptoBulk d + 1
  | .map entries => uptoBulkEntries entries + 1
  | .held _ => 1
def uptoBulkAll {H : Type} : List (DataW H) → Nat
  | [] => 0
  | d :: r => uptoBulk d + uptoBulkAll r
def uptoBulkEntries {H : Type} : List (Lit × DataW H) → Nat
  | [] => 0
  | x :: r => uptoBulkEntry x + uptoBulkEntries r
def uptoBulkEntry {H : Type} : Lit × DataW H → Nat
  | (.string bytes, d) => bytes.length + uptoBulk d + 1
  | (_, d) => uptoBulk d + 1
 end
def uptoSmall : (H : Type) → List (DataW H) → Bool := fun _ ds => decide (uptoBulkAll ds ≤ 1048576)
def OpenSpec.upto (s : _root_.Go.ChangeSpec) : _root_.Go.OpenSpec := { _root_.Go.OpenSpec.ofChange s with cond := some uptoSmall }

/-- 'shawmlaw27.TagWrites', WHERE WHAT IT READS IS OF BULK AT MOST 1048576: true; the input reads as it did. -/
def tagWritesUptoRow : OpenClaim := { program := "ythlmnnjbpikijaadoor", sum := "2dd9a74ac76ffe61ee5cc953bcd57f56ce6b23de4aea4b11368599f2bd4f604c", func := "shawm/shawmlaw27.TagWrites", spec := "tagWrites", unfollowed := true, recurses := true, named := ["shawm/tag.rates"], plainKeys := false, apart := false, laid := [("shawm/tag.rates", laid_shawm_tag_rates)], narrowed := true }
def TagWritesUptoSaid : Prop := tagWritesUptoRow.holds Tryd.pinned (OpenSpec.upto tagWritesSpec)

/-- 'shawmlaw27.TagReads', WHERE WHAT IT READS IS OF BULK AT MOST 1048576: true; the input reads as it did. -/
def tagReadsUptoRow : OpenClaim := { program := "ythlmnnjbpikijaadoor", sum := "2dd9a74ac76ffe61ee5cc953bcd57f56ce6b23de4aea4b11368599f2bd4f604c", func := "shawm/shawmlaw27.TagReads", spec := "tagReads", unfollowed := true, recurses := true, named := ["shawm/tag.rates"], plainKeys := false, apart := false, laid := [("shawm/tag.rates", laid_shawm_tag_rates)], narrowed := true }
def TagReadsUptoSaid : Prop := tagReadsUptoRow.holds Tryd.pinned (OpenSpec.upto tagReadsSpec)

/-- 'shawmlaw27.TagStuffs', WHERE WHAT IT READS IS OF BULK AT MOST 1048576: true; the input reads as it did. -/
def tagStuffsUptoRow : OpenClaim := { program := "ythlmnnjbpikijaadoor", sum := "2dd9a74ac76ffe61ee5cc953bcd57f56ce6b23de4aea4b11368599f2bd4f604c", func := "shawm/shawmlaw27.TagStuffs", spec := "tagStuffs", unfollowed := true, recurses := true, named := ["shawm/tag.rates"], plainKeys := false, apart := false, laid := [("shawm/tag.rates", laid_shawm_tag_rates)], narrowed := true }
def TagStuffsUptoSaid : Prop := tagStuffsUptoRow.holds Tryd.pinned (OpenSpec.upto tagStuffsSpec)

/-- 'shawmlaw27.TagSets', WHERE WHAT IT READS IS OF BULK AT MOST 1048576: true; the input reads as it did. -/
def tagSetsUptoRow : OpenClaim := { program := "ythlmnnjbpikijaadoor", sum := "2dd9a74ac76ffe61ee5cc953bcd57f56ce6b23de4aea4b11368599f2bd4f604c", func := "shawm/shawmlaw27.TagSets", spec := "tagSets", unfollowed := true, recurses := true, named := ["shawm/tag.rates"], plainKeys := false, apart := false, laid := [("shawm/tag.rates", laid_shawm_tag_rates)], narrowed := true }
def TagSetsUptoSaid : Prop := tagSetsUptoRow.holds Tryd.pinned (OpenSpec.upto tagSetsSpec)

/-- 'shawmlaw27.TagTrims', WHERE WHAT IT READS IS OF BULK AT MOST 1048576: true; the input reads as it did. -/
def tagTrimsUptoRow : OpenClaim := { program := "ythlmnnjbpikijaadoor", sum := "2dd9a74ac76ffe61ee5cc953bcd57f56ce6b23de4aea4b11368599f2bd4f604c", func := "shawm/shawmlaw27.TagTrims", spec := "tagTrims", unfollowed := true, recurses := true, named := ["shawm/tag.rates"], plainKeys := false, apart := false, laid := [("shawm/tag.rates", laid_shawm_tag_rates)], narrowed := true }
def TagTrimsUptoSaid : Prop := tagTrimsUptoRow.holds Tryd.pinned (OpenSpec.upto tagTrimsSpec)

/-- 'shawmlaw27.TagBack', WHERE WHAT IT READS IS OF BULK AT MOST 1048576: true; the input reads as it did. -/
def tagBackUptoRow : OpenClaim := { program := "ythlmnnjbpikijaadoor", sum := "2dd9a74ac76ffe61ee5cc953bcd57f56ce6b23de4aea4b11368599f2bd4f604c", func := "shawm/shawmlaw27.TagBack", spec := "tagBack", unfollowed := true, recurses := true, named := ["shawm/tag.rates"], plainKeys := false, apart := false, laid := [("shawm/tag.rates", laid_shawm_tag_rates)], narrowed := true }
def TagBackUptoSaid : Prop := tagBackUptoRow.holds Tryd.pinned (OpenSpec.upto tagBackSpec)

/-- 'shawmlaw27.TagFields', WHERE WHAT IT READS IS OF BULK AT MOST 1048576: true; the input reads as it did. -/
def tagFieldsUptoRow : OpenClaim := { program := "ythlmnnjbpikijaadoor", sum := "2dd9a74ac76ffe61ee5cc953bcd57f56ce6b23de4aea4b11368599f2bd4f604c", func := "shawm/shawmlaw27.TagFields", spec := "tagFields", unfollowed := true, recurses := true, named := ["shawm/tag.rates"], plainKeys := false, apart := false, laid := [("shawm/tag.rates", laid_shawm_tag_rates)], narrowed := true }
def TagFieldsUptoSaid : Prop := tagFieldsUptoRow.holds Tryd.pinned (OpenSpec.upto tagFieldsSpec)

/-- 'shawmlaw27.TagExact', WHERE WHAT IT READS IS OF BULK AT MOST 1048576: true; the input reads as it did. -/
def tagExactUptoRow : OpenClaim := { program := "ythlmnnjbpikijaadoor", sum := "2dd9a74ac76ffe61ee5cc953bcd57f56ce6b23de4aea4b11368599f2bd4f604c", func := "shawm/shawmlaw27.TagExact", spec := "tagExact", unfollowed := true, recurses := true, named := ["shawm/tag.rates"], plainKeys := false, apart := false, laid := [("shawm/tag.rates", laid_shawm_tag_rates)], narrowed := true }
def TagExactUptoSaid : Prop := tagExactUptoRow.holds Tryd.pinned (OpenSpec.upto tagExactSpec)

end Rows
end Go.Proofs.YthlmnnjbpikijaaDoor
