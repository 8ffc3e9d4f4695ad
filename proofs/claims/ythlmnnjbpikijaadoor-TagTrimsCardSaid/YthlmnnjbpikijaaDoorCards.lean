/-
  DERIVED. GIVEN WITH THE SEED: THE CARDS: each row of YthlmnnjbpikijaaDoorRows.lean that lists a variable, with what it lists TIED to the program's text (the seventh form; the later family's looks); each row that meets fmt, with fmt's text TOLD by the authors' own Lean function (tested against real Go, not proved from fmt's source: count such statements apart). THE CARD IS WHAT COUNTS. Prove the row's statement (the work); the ties are given (YthlmnnjbpikijaaDoorTie.lean); close each card by the builder's one call (the guide's Derived/Test/ToyasCard.lean, 'card_holds'). Laid BY PROGRAM, IN A SANDBOX (cutbox-door.mjs). By AI agents, Wed Nov 11 2026. No macro, syntax, notation, axiom, sorry.
-/
import Derived.Test.YthlmnnjbpikijaaDoorRows
import GoSem.ClaimSeven
namespace Go.Proofs.YthlmnnjbpikijaaDoor
namespace Rows

/-- THE TIED CARD OF 'shawmlaw27.TagWrites'. -/
def tagWritesCard : Claim7 := { stood := { row := tagWritesRow, standIns := [], harness := (true, "39c3a6e9b93c356dbe02f38eb2d10c3e70def36f4921315954aa29fefff6787a"), looks := true }, kinds := [], alts := [], laidByText := true, laidKinds := [.widerDeep], laidTests := true, laidLooks := .later }
def TagWritesCardSaid : Prop := Claim7.holds Tryd.pinned (.plain (OpenSpec.ofChange tagWritesSpec)) tagWritesCard

/-- THE TIED CARD OF 'shawmlaw27.TagReads'. -/
def tagReadsCard : Claim7 := { stood := { row := tagReadsRow, standIns := [], harness := (true, "39c3a6e9b93c356dbe02f38eb2d10c3e70def36f4921315954aa29fefff6787a"), looks := true }, kinds := [], alts := [], laidByText := true, laidKinds := [.widerDeep], laidTests := true, laidLooks := .later }
def TagReadsCardSaid : Prop := Claim7.holds Tryd.pinned (.plain (OpenSpec.ofChange tagReadsSpec)) tagReadsCard

/-- THE TIED CARD OF 'shawmlaw27.TagStuffs'. -/
def tagStuffsCard : Claim7 := { stood := { row := tagStuffsRow, standIns := [], harness := (true, "39c3a6e9b93c356dbe02f38eb2d10c3e70def36f4921315954aa29fefff6787a"), looks := true }, kinds := [], alts := [], laidByText := true, laidKinds := [.widerDeep], laidTests := true, laidLooks := .later }
def TagStuffsCardSaid : Prop := Claim7.holds Tryd.pinned (.plain (OpenSpec.ofChange tagStuffsSpec)) tagStuffsCard

/-- THE TIED CARD OF 'shawmlaw27.TagSets'. -/
def tagSetsCard : Claim7 := { stood := { row := tagSetsRow, standIns := [], harness := (true, "39c3a6e9b93c356dbe02f38eb2d10c3e70def36f4921315954aa29fefff6787a"), looks := true }, kinds := [], alts := [], laidByText := true, laidKinds := [.widerDeep], laidTests := true, laidLooks := .later }
def TagSetsCardSaid : Prop := Claim7.holds Tryd.pinned (.plain (OpenSpec.ofChange tagSetsSpec)) tagSetsCard

/-- THE TIED CARD OF 'shawmlaw27.TagTrims'. -/
def tagTrimsCard : Claim7 := { stood := { row := tagTrimsRow, standIns := [], harness := (true, "39c3a6e9b93c356dbe02f38eb2d10c3e70def36f4921315954aa29fefff6787a"), looks := true }, kinds := [], alts := [], laidByText := true, laidKinds := [.widerDeep], laidTests := true, laidLooks := .later }
def TagTrimsCardSaid : Prop := Claim7.holds Tryd.pinned (.plain (OpenSpec.ofChange tagTrimsSpec)) tagTrimsCard

/-- THE TIED CARD OF 'shawmlaw27.TagBack'. -/
def tagBackCard : Claim7 := { stood := { row := tagBackRow, standIns := [], harness := (true, "39c3a6e9b93c356dbe02f38eb2d10c3e70def36f4921315954aa29fefff6787a"), looks := true }, kinds := [], alts := [], laidByText := true, laidKinds := [.widerDeep], laidTests := true, laidLooks := .later }
def TagBackCardSaid : Prop := Claim7.holds Tryd.pinned (.plain (OpenSpec.ofChange tagBackSpec)) tagBackCard

/-- THE TIED CARD OF 'shawmlaw27.TagFields'. -/
def tagFieldsCard : Claim7 := { stood := { row := tagFieldsRow, standIns := [], harness := (true, "39c3a6e9b93c356dbe02f38eb2d10c3e70def36f4921315954aa29fefff6787a"), looks := true }, kinds := [], alts := [], laidByText := true, laidKinds := [.widerDeep], laidTests := true, laidLooks := .later }
def TagFieldsCardSaid : Prop := Claim7.holds Tryd.pinned (.plain (OpenSpec.ofChange tagFieldsSpec)) tagFieldsCard

/-- THE TIED CARD OF 'shawmlaw27.TagExact'. -/
def tagExactCard : Claim7 := { stood := { row := tagExactRow, standIns := [], harness := (true, "39c3a6e9b93c356dbe02f38eb2d10c3e70def36f4921315954aa29fefff6787a"), looks := true }, kinds := [], alts := [], laidByText := true, laidKinds := [.widerDeep], laidTests := true, laidLooks := .later }
def TagExactCardSaid : Prop := Claim7.holds Tryd.pinned (.plain (OpenSpec.ofChange tagExactSpec)) tagExactCard

/-- THE SECOND FORM's CARD OF 'shawmlaw27.TagWrites'. -/
def tagWritesUptoCard : Claim7 := { stood := { row := tagWritesUptoRow, standIns := [], harness := (true, "39c3a6e9b93c356dbe02f38eb2d10c3e70def36f4921315954aa29fefff6787a"), looks := true }, kinds := [], alts := [], laidByText := true, laidKinds := [.widerDeep], laidTests := true, laidLooks := .later }
def TagWritesUptoCardSaid : Prop := Claim7.holds Tryd.pinned (.plain (OpenSpec.upto tagWritesSpec)) tagWritesUptoCard

/-- THE SECOND FORM's CARD OF 'shawmlaw27.TagReads'. -/
def tagReadsUptoCard : Claim7 := { stood := { row := tagReadsUptoRow, standIns := [], harness := (true, "39c3a6e9b93c356dbe02f38eb2d10c3e70def36f4921315954aa29fefff6787a"), looks := true }, kinds := [], alts := [], laidByText := true, laidKinds := [.widerDeep], laidTests := true, laidLooks := .later }
def TagReadsUptoCardSaid : Prop := Claim7.holds Tryd.pinned (.plain (OpenSpec.upto tagReadsSpec)) tagReadsUptoCard

/-- THE SECOND FORM's CARD OF 'shawmlaw27.TagStuffs'. -/
def tagStuffsUptoCard : Claim7 := { stood := { row := tagStuffsUptoRow, standIns := [], harness := (true, "39c3a6e9b93c356dbe02f38eb2d10c3e70def36f4921315954aa29fefff6787a"), looks := true }, kinds := [], alts := [], laidByText := true, laidKinds := [.widerDeep], laidTests := true, laidLooks := .later }
def TagStuffsUptoCardSaid : Prop := Claim7.holds Tryd.pinned (.plain (OpenSpec.upto tagStuffsSpec)) tagStuffsUptoCard

/-- THE SECOND FORM's CARD OF 'shawmlaw27.TagSets'. -/
def tagSetsUptoCard : Claim7 := { stood := { row := tagSetsUptoRow, standIns := [], harness := (true, "39c3a6e9b93c356dbe02f38eb2d10c3e70def36f4921315954aa29fefff6787a"), looks := true }, kinds := [], alts := [], laidByText := true, laidKinds := [.widerDeep], laidTests := true, laidLooks := .later }
def TagSetsUptoCardSaid : Prop := Claim7.holds Tryd.pinned (.plain (OpenSpec.upto tagSetsSpec)) tagSetsUptoCard

/-- THE SECOND FORM's CARD OF 'shawmlaw27.TagTrims'. -/
def tagTrimsUptoCard : Claim7 := { stood := { row := tagTrimsUptoRow, standIns := [], harness := (true, "39c3a6e9b93c356dbe02f38eb2d10c3e70def36f4921315954aa29fefff6787a"), looks := true }, kinds := [], alts := [], laidByText := true, laidKinds := [.widerDeep], laidTests := true, laidLooks := .later }
def TagTrimsUptoCardSaid : Prop := Claim7.holds Tryd.pinned (.plain (OpenSpec.upto tagTrimsSpec)) tagTrimsUptoCard

/-- THE SECOND FORM's CARD OF 'shawmlaw27.TagBack'. -/
def tagBackUptoCard : Claim7 := { stood := { row := tagBackUptoRow, standIns := [], harness := (true, "39c3a6e9b93c356dbe02f38eb2d10c3e70def36f4921315954aa29fefff6787a"), looks := true }, kinds := [], alts := [], laidByText := true, laidKinds := [.widerDeep], laidTests := true, laidLooks := .later }
def TagBackUptoCardSaid : Prop := Claim7.holds Tryd.pinned (.plain (OpenSpec.upto tagBackSpec)) tagBackUptoCard

/-- THE SECOND FORM's CARD OF 'shawmlaw27.TagFields'. -/
def tagFieldsUptoCard : Claim7 := { stood := { row := tagFieldsUptoRow, standIns := [], harness := (true, "39c3a6e9b93c356dbe02f38eb2d10c3e70def36f4921315954aa29fefff6787a"), looks := true }, kinds := [], alts := [], laidByText := true, laidKinds := [.widerDeep], laidTests := true, laidLooks := .later }
def TagFieldsUptoCardSaid : Prop := Claim7.holds Tryd.pinned (.plain (OpenSpec.upto tagFieldsSpec)) tagFieldsUptoCard

/-- THE SECOND FORM's CARD OF 'shawmlaw27.TagExact'. -/
def tagExactUptoCard : Claim7 := { stood := { row := tagExactUptoRow, standIns := [], harness := (true, "39c3a6e9b93c356dbe02f38eb2d10c3e70def36f4921315954aa29fefff6787a"), looks := true }, kinds := [], alts := [], laidByText := true, laidKinds := [.widerDeep], laidTests := true, laidLooks := .later }
def TagExactUptoCardSaid : Prop := Claim7.holds Tryd.pinned (.plain (OpenSpec.upto tagExactSpec)) tagExactUptoCard
end Rows
end Go.Proofs.YthlmnnjbpikijaaDoor
