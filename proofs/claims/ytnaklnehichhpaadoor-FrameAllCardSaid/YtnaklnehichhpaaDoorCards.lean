/-
  DERIVED. GIVEN WITH THE SEED: THE CARDS: each row of YtnaklnehichhpaaDoorRows.lean that lists a variable, with what it lists TIED to the program's text (the seventh form; the later family's looks); each row that meets fmt, with fmt's text TOLD by the authors' own Lean function (tested against real Go, not proved from fmt's source: count such statements apart). THE CARD IS WHAT COUNTS. Prove the row's statement (the work); the ties are given (YtnaklnehichhpaaDoorTie.lean); close each card by the builder's one call (the guide's Derived/Test/ToyasCard.lean, 'card_holds'). Laid BY PROGRAM, IN A SANDBOX (cutbox-door.mjs). By AI agents, Wed Nov 11 2026. No macro, syntax, notation, axiom, sorry.
-/
import Derived.Test.YtnaklnehichhpaaDoorRows
import GoSem.ClaimSeven
namespace Go.Proofs.YtnaklnehichhpaaDoor
namespace Rows

/-- THE TIED CARD OF 'shawmlaw22.FrameWrites'. -/
def frameWritesCard : Claim7 := { stood := { row := frameWritesRow, standIns := [], harness := (true, "a6c14f4fd5ad1fe605f3eda92773c09567e6fd3ba267a3724c80cff239f9eae6"), looks := true }, kinds := [], alts := [], laidByText := true, laidKinds := [.data], laidTests := true, laidLooks := .later }
def FrameWritesCardSaid : Prop := Claim7.holds Tryd.pinned (.plain (OpenSpec.ofChange frameWritesSpec)) frameWritesCard

/-- THE TIED CARD OF 'shawmlaw22.FrameReads'. -/
def frameReadsCard : Claim7 := { stood := { row := frameReadsRow, standIns := [], harness := (true, "a6c14f4fd5ad1fe605f3eda92773c09567e6fd3ba267a3724c80cff239f9eae6"), looks := true }, kinds := [], alts := [], laidByText := true, laidKinds := [.data], laidTests := true, laidLooks := .later }
def FrameReadsCardSaid : Prop := Claim7.holds Tryd.pinned (.plain (OpenSpec.ofChange frameReadsSpec)) frameReadsCard

/-- THE TIED CARD OF 'shawmlaw22.FrameFinds'. -/
def frameFindsCard : Claim7 := { stood := { row := frameFindsRow, standIns := [], harness := (true, "a6c14f4fd5ad1fe605f3eda92773c09567e6fd3ba267a3724c80cff239f9eae6"), looks := true }, kinds := [], alts := [], laidByText := true, laidKinds := [.data], laidTests := true, laidLooks := .later }
def FrameFindsCardSaid : Prop := Claim7.holds Tryd.pinned (.plain (OpenSpec.ofChange frameFindsSpec)) frameFindsCard

/-- THE TIED CARD OF 'shawmlaw22.FrameBack'. -/
def frameBackCard : Claim7 := { stood := { row := frameBackRow, standIns := [], harness := (true, "a6c14f4fd5ad1fe605f3eda92773c09567e6fd3ba267a3724c80cff239f9eae6"), looks := true }, kinds := [], alts := [], laidByText := true, laidKinds := [.data], laidTests := true, laidLooks := .later }
def FrameBackCardSaid : Prop := Claim7.holds Tryd.pinned (.plain (OpenSpec.ofChange frameBackSpec)) frameBackCard

/-- THE TIED CARD OF 'shawmlaw22.FrameDamage'. -/
def frameDamageCard : Claim7 := { stood := { row := frameDamageRow, standIns := [], harness := (true, "a6c14f4fd5ad1fe605f3eda92773c09567e6fd3ba267a3724c80cff239f9eae6"), looks := true }, kinds := [], alts := [], laidByText := true, laidKinds := [.data], laidTests := true, laidLooks := .later }
def FrameDamageCardSaid : Prop := Claim7.holds Tryd.pinned (.plain (OpenSpec.ofChange frameDamageSpec)) frameDamageCard

/-- THE TIED CARD OF 'shawmlaw22.FrameAll'. -/
def frameAllCard : Claim7 := { stood := { row := frameAllRow, standIns := [], harness := (true, "a6c14f4fd5ad1fe605f3eda92773c09567e6fd3ba267a3724c80cff239f9eae6"), looks := true }, kinds := [], alts := [], laidByText := true, laidKinds := [.data], laidTests := true, laidLooks := .later }
def FrameAllCardSaid : Prop := Claim7.holds Tryd.pinned (.plain (OpenSpec.ofChange frameAllSpec)) frameAllCard

/-- THE TIED CARD OF 'shawmlaw22.FrameFound'. -/
def frameFoundCard : Claim7 := { stood := { row := frameFoundRow, standIns := [], harness := (true, "a6c14f4fd5ad1fe605f3eda92773c09567e6fd3ba267a3724c80cff239f9eae6"), looks := true }, kinds := [], alts := [], laidByText := true, laidKinds := [.data], laidTests := true, laidLooks := .later }
def FrameFoundCardSaid : Prop := Claim7.holds Tryd.pinned (.plain (OpenSpec.ofChange frameFoundSpec)) frameFoundCard

/-- THE SECOND FORM's CARD OF 'shawmlaw22.FrameWrites'. -/
def frameWritesUptoCard : Claim7 := { stood := { row := frameWritesUptoRow, standIns := [], harness := (true, "a6c14f4fd5ad1fe605f3eda92773c09567e6fd3ba267a3724c80cff239f9eae6"), looks := true }, kinds := [], alts := [], laidByText := true, laidKinds := [.data], laidTests := true, laidLooks := .later }
def FrameWritesUptoCardSaid : Prop := Claim7.holds Tryd.pinned (.plain (OpenSpec.upto frameWritesSpec)) frameWritesUptoCard

/-- THE SECOND FORM's CARD OF 'shawmlaw22.FrameReads'. -/
def frameReadsUptoCard : Claim7 := { stood := { row := frameReadsUptoRow, standIns := [], harness := (true, "a6c14f4fd5ad1fe605f3eda92773c09567e6fd3ba267a3724c80cff239f9eae6"), looks := true }, kinds := [], alts := [], laidByText := true, laidKinds := [.data], laidTests := true, laidLooks := .later }
def FrameReadsUptoCardSaid : Prop := Claim7.holds Tryd.pinned (.plain (OpenSpec.upto frameReadsSpec)) frameReadsUptoCard

/-- THE SECOND FORM's CARD OF 'shawmlaw22.FrameFinds'. -/
def frameFindsUptoCard : Claim7 := { stood := { row := frameFindsUptoRow, standIns := [], harness := (true, "a6c14f4fd5ad1fe605f3eda92773c09567e6fd3ba267a3724c80cff239f9eae6"), looks := true }, kinds := [], alts := [], laidByText := true, laidKinds := [.data], laidTests := true, laidLooks := .later }
def FrameFindsUptoCardSaid : Prop := Claim7.holds Tryd.pinned (.plain (OpenSpec.upto frameFindsSpec)) frameFindsUptoCard

/-- THE SECOND FORM's CARD OF 'shawmlaw22.FrameBack'. -/
def frameBackUptoCard : Claim7 := { stood := { row := frameBackUptoRow, standIns := [], harness := (true, "a6c14f4fd5ad1fe605f3eda92773c09567e6fd3ba267a3724c80cff239f9eae6"), looks := true }, kinds := [], alts := [], laidByText := true, laidKinds := [.data], laidTests := true, laidLooks := .later }
def FrameBackUptoCardSaid : Prop := Claim7.holds Tryd.pinned (.plain (OpenSpec.upto frameBackSpec)) frameBackUptoCard

/-- THE SECOND FORM's CARD OF 'shawmlaw22.FrameDamage'. -/
def frameDamageUptoCard : Claim7 := { stood := { row := frameDamageUptoRow, standIns := [], harness := (true, "a6c14f4fd5ad1fe605f3eda92773c09567e6fd3ba267a3724c80cff239f9eae6"), looks := true }, kinds := [], alts := [], laidByText := true, laidKinds := [.data], laidTests := true, laidLooks := .later }
def FrameDamageUptoCardSaid : Prop := Claim7.holds Tryd.pinned (.plain (OpenSpec.upto frameDamageSpec)) frameDamageUptoCard

/-- THE SECOND FORM's CARD OF 'shawmlaw22.FrameAll'. -/
def frameAllUptoCard : Claim7 := { stood := { row := frameAllUptoRow, standIns := [], harness := (true, "a6c14f4fd5ad1fe605f3eda92773c09567e6fd3ba267a3724c80cff239f9eae6"), looks := true }, kinds := [], alts := [], laidByText := true, laidKinds := [.data], laidTests := true, laidLooks := .later }
def FrameAllUptoCardSaid : Prop := Claim7.holds Tryd.pinned (.plain (OpenSpec.upto frameAllSpec)) frameAllUptoCard

/-- THE SECOND FORM's CARD OF 'shawmlaw22.FrameFound'. -/
def frameFoundUptoCard : Claim7 := { stood := { row := frameFoundUptoRow, standIns := [], harness := (true, "a6c14f4fd5ad1fe605f3eda92773c09567e6fd3ba267a3724c80cff239f9eae6"), looks := true }, kinds := [], alts := [], laidByText := true, laidKinds := [.data], laidTests := true, laidLooks := .later }
def FrameFoundUptoCardSaid : Prop := Claim7.holds Tryd.pinned (.plain (OpenSpec.upto frameFoundSpec)) frameFoundUptoCard
end Rows
end Go.Proofs.YtnaklnehichhpaaDoor
