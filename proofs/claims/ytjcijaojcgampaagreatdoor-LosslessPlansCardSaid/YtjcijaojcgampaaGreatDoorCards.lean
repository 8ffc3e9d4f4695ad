/-
  DERIVED. GIVEN WITH THE SEED: THE CARDS: each row of YtjcijaojcgampaaGreatDoorRows.lean that lists a variable, with what it lists TIED to the program's text (the seventh form; the later family's looks); each row that meets fmt, with fmt's text TOLD by the authors' own Lean function (tested against real Go, not proved from fmt's source: count such statements apart). THE CARD IS WHAT COUNTS. Prove the row's statement (the work); the ties are given (YtjcijaojcgampaaGreatDoorTie.lean); close each card by the builder's one call (the guide's Derived/Test/ToyasCard.lean, 'card_holds'). Laid BY PROGRAM, IN A SANDBOX (cutbox-door.mjs). By AI agents, Wed Nov 11 2026. No macro, syntax, notation, axiom, sorry.
-/
import Derived.Test.YtjcijaojcgampaaGreatDoorRows
import GoSem.ClaimSeven
namespace Go.Proofs.YtjcijaojcgampaaGreatDoor
namespace Rows

/-- THE TIED CARD OF 'shawmlaw20.LosslessSmall'. -/
def losslessSmallCard : Claim7 := { stood := { row := losslessSmallRow, standIns := [], harness := (true, "466c55f36b55c6d6aabd2bf270011f85fe6567d4eb15705e178ad82850a5140d"), looks := false }, kinds := [], alts := [], laidByText := true, laidKinds := [.data], laidTests := true, laidLooks := .later }
def LosslessSmallCardSaid : Prop := Claim7.holds Tryz.pinned (.plain (OpenSpec.ofChange losslessSmallSpec)) losslessSmallCard

/-- THE TIED CARD OF 'shawmlaw20.LosslessShort'. -/
def losslessShortCard : Claim7 := { stood := { row := losslessShortRow, standIns := [], harness := (true, "466c55f36b55c6d6aabd2bf270011f85fe6567d4eb15705e178ad82850a5140d"), looks := false }, kinds := [], alts := [], laidByText := true, laidKinds := [.data], laidTests := true, laidLooks := .later }
def LosslessShortCardSaid : Prop := Claim7.holds Tryz.pinned (.plain (OpenSpec.ofChange losslessShortSpec)) losslessShortCard

/-- THE TIED CARD OF 'shawmlaw20.LosslessPlans'. -/
def losslessPlansCard : Claim7 := { stood := { row := losslessPlansRow, standIns := [], harness := (true, "466c55f36b55c6d6aabd2bf270011f85fe6567d4eb15705e178ad82850a5140d"), looks := false }, kinds := [], alts := [], laidByText := true, laidKinds := [.data], laidTests := true, laidLooks := .later }
def LosslessPlansCardSaid : Prop := Claim7.holds Tryz.pinned (.plain (OpenSpec.ofChange losslessPlansSpec)) losslessPlansCard

/-- THE TIED CARD OF 'shawmlaw20.LosslessSizes'. -/
def losslessSizesCard : Claim7 := { stood := { row := losslessSizesRow, standIns := [], harness := (true, "466c55f36b55c6d6aabd2bf270011f85fe6567d4eb15705e178ad82850a5140d"), looks := false }, kinds := [], alts := [], laidByText := true, laidKinds := [.data], laidTests := true, laidLooks := .later }
def LosslessSizesCardSaid : Prop := Claim7.holds Tryz.pinned (.plain (OpenSpec.ofChange losslessSizesSpec)) losslessSizesCard

/-- THE TIED CARD OF 'shawmlaw20.LosslessWrites'. -/
def losslessWritesCard : Claim7 := { stood := { row := losslessWritesRow, standIns := [], harness := (true, "466c55f36b55c6d6aabd2bf270011f85fe6567d4eb15705e178ad82850a5140d"), looks := false }, kinds := [], alts := [], laidByText := true, laidKinds := [.data], laidTests := true, laidLooks := .later }
def LosslessWritesCardSaid : Prop := Claim7.holds Tryz.pinned (.plain (OpenSpec.ofChange losslessWritesSpec)) losslessWritesCard

/-- THE TIED CARD OF 'shawmlaw20.LosslessReads'. -/
def losslessReadsCard : Claim7 := { stood := { row := losslessReadsRow, standIns := [], harness := (true, "466c55f36b55c6d6aabd2bf270011f85fe6567d4eb15705e178ad82850a5140d"), looks := false }, kinds := [], alts := [], laidByText := true, laidKinds := [.data], laidTests := true, laidLooks := .later }
def LosslessReadsCardSaid : Prop := Claim7.holds Tryz.pinned (.plain (OpenSpec.ofChange losslessReadsSpec)) losslessReadsCard

/-- THE TIED CARD OF 'shawmlaw20.LosslessSamples'. -/
def losslessSamplesCard : Claim7 := { stood := { row := losslessSamplesRow, standIns := [], harness := (true, "466c55f36b55c6d6aabd2bf270011f85fe6567d4eb15705e178ad82850a5140d"), looks := false }, kinds := [], alts := [], laidByText := true, laidKinds := [.data], laidTests := true, laidLooks := .later }
def LosslessSamplesCardSaid : Prop := Claim7.holds Tryz.pinned (.plain (OpenSpec.ofChange losslessSamplesSpec)) losslessSamplesCard

/-- THE TIED CARD OF 'shawmlaw20.LosslessBack'. -/
def losslessBackCard : Claim7 := { stood := { row := losslessBackRow, standIns := [], harness := (true, "466c55f36b55c6d6aabd2bf270011f85fe6567d4eb15705e178ad82850a5140d"), looks := false }, kinds := [], alts := [], laidByText := true, laidKinds := [.data], laidTests := true, laidLooks := .later }
def LosslessBackCardSaid : Prop := Claim7.holds Tryz.pinned (.plain (OpenSpec.ofChange losslessBackSpec)) losslessBackCard

/-- THE TIED CARD OF 'shawmlaw20.LosslessLeast'. -/
def losslessLeastCard : Claim7 := { stood := { row := losslessLeastRow, standIns := [], harness := (true, "466c55f36b55c6d6aabd2bf270011f85fe6567d4eb15705e178ad82850a5140d"), looks := false }, kinds := [], alts := [], laidByText := true, laidKinds := [.data], laidTests := true, laidLooks := .later }
def LosslessLeastCardSaid : Prop := Claim7.holds Tryz.pinned (.plain (OpenSpec.ofChange losslessLeastSpec)) losslessLeastCard

/-- THE SECOND FORM's CARD OF 'shawmlaw20.LosslessSmall'. -/
def losslessSmallUptoCard : Claim7 := { stood := { row := losslessSmallUptoRow, standIns := [], harness := (true, "466c55f36b55c6d6aabd2bf270011f85fe6567d4eb15705e178ad82850a5140d"), looks := false }, kinds := [], alts := [], laidByText := true, laidKinds := [.data], laidTests := true, laidLooks := .later }
def LosslessSmallUptoCardSaid : Prop := Claim7.holds Tryz.pinned (.plain (OpenSpec.upto losslessSmallSpec)) losslessSmallUptoCard

/-- THE SECOND FORM's CARD OF 'shawmlaw20.LosslessShort'. -/
def losslessShortUptoCard : Claim7 := { stood := { row := losslessShortUptoRow, standIns := [], harness := (true, "466c55f36b55c6d6aabd2bf270011f85fe6567d4eb15705e178ad82850a5140d"), looks := false }, kinds := [], alts := [], laidByText := true, laidKinds := [.data], laidTests := true, laidLooks := .later }
def LosslessShortUptoCardSaid : Prop := Claim7.holds Tryz.pinned (.plain (OpenSpec.upto losslessShortSpec)) losslessShortUptoCard

/-- THE SECOND FORM's CARD OF 'shawmlaw20.LosslessPlans'. -/
def losslessPlansUptoCard : Claim7 := { stood := { row := losslessPlansUptoRow, standIns := [], harness := (true, "466c55f36b55c6d6aabd2bf270011f85fe6567d4eb15705e178ad82850a5140d"), looks := false }, kinds := [], alts := [], laidByText := true, laidKinds := [.data], laidTests := true, laidLooks := .later }
def LosslessPlansUptoCardSaid : Prop := Claim7.holds Tryz.pinned (.plain (OpenSpec.upto losslessPlansSpec)) losslessPlansUptoCard

/-- THE SECOND FORM's CARD OF 'shawmlaw20.LosslessSizes'. -/
def losslessSizesUptoCard : Claim7 := { stood := { row := losslessSizesUptoRow, standIns := [], harness := (true, "466c55f36b55c6d6aabd2bf270011f85fe6567d4eb15705e178ad82850a5140d"), looks := false }, kinds := [], alts := [], laidByText := true, laidKinds := [.data], laidTests := true, laidLooks := .later }
def LosslessSizesUptoCardSaid : Prop := Claim7.holds Tryz.pinned (.plain (OpenSpec.upto losslessSizesSpec)) losslessSizesUptoCard

/-- THE SECOND FORM's CARD OF 'shawmlaw20.LosslessWrites'. -/
def losslessWritesUptoCard : Claim7 := { stood := { row := losslessWritesUptoRow, standIns := [], harness := (true, "466c55f36b55c6d6aabd2bf270011f85fe6567d4eb15705e178ad82850a5140d"), looks := false }, kinds := [], alts := [], laidByText := true, laidKinds := [.data], laidTests := true, laidLooks := .later }
def LosslessWritesUptoCardSaid : Prop := Claim7.holds Tryz.pinned (.plain (OpenSpec.upto losslessWritesSpec)) losslessWritesUptoCard

/-- THE SECOND FORM's CARD OF 'shawmlaw20.LosslessReads'. -/
def losslessReadsUptoCard : Claim7 := { stood := { row := losslessReadsUptoRow, standIns := [], harness := (true, "466c55f36b55c6d6aabd2bf270011f85fe6567d4eb15705e178ad82850a5140d"), looks := false }, kinds := [], alts := [], laidByText := true, laidKinds := [.data], laidTests := true, laidLooks := .later }
def LosslessReadsUptoCardSaid : Prop := Claim7.holds Tryz.pinned (.plain (OpenSpec.upto losslessReadsSpec)) losslessReadsUptoCard

/-- THE SECOND FORM's CARD OF 'shawmlaw20.LosslessSamples'. -/
def losslessSamplesUptoCard : Claim7 := { stood := { row := losslessSamplesUptoRow, standIns := [], harness := (true, "466c55f36b55c6d6aabd2bf270011f85fe6567d4eb15705e178ad82850a5140d"), looks := false }, kinds := [], alts := [], laidByText := true, laidKinds := [.data], laidTests := true, laidLooks := .later }
def LosslessSamplesUptoCardSaid : Prop := Claim7.holds Tryz.pinned (.plain (OpenSpec.upto losslessSamplesSpec)) losslessSamplesUptoCard

/-- THE SECOND FORM's CARD OF 'shawmlaw20.LosslessBack'. -/
def losslessBackUptoCard : Claim7 := { stood := { row := losslessBackUptoRow, standIns := [], harness := (true, "466c55f36b55c6d6aabd2bf270011f85fe6567d4eb15705e178ad82850a5140d"), looks := false }, kinds := [], alts := [], laidByText := true, laidKinds := [.data], laidTests := true, laidLooks := .later }
def LosslessBackUptoCardSaid : Prop := Claim7.holds Tryz.pinned (.plain (OpenSpec.upto losslessBackSpec)) losslessBackUptoCard

/-- THE SECOND FORM's CARD OF 'shawmlaw20.LosslessLeast'. -/
def losslessLeastUptoCard : Claim7 := { stood := { row := losslessLeastUptoRow, standIns := [], harness := (true, "466c55f36b55c6d6aabd2bf270011f85fe6567d4eb15705e178ad82850a5140d"), looks := false }, kinds := [], alts := [], laidByText := true, laidKinds := [.data], laidTests := true, laidLooks := .later }
def LosslessLeastUptoCardSaid : Prop := Claim7.holds Tryz.pinned (.plain (OpenSpec.upto losslessLeastSpec)) losslessLeastUptoCard
end Rows
end Go.Proofs.YtjcijaojcgampaaGreatDoor
