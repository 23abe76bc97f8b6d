/-
  DERIVED. GIVEN WITH THE SEED: THE CARDS: each row of YthncmfchphigdaaDoorRows.lean that lists a variable, with what it lists TIED to the program's text (the seventh form; the later family's looks); each row that meets fmt, with fmt's text TOLD by the authors' own Lean function (tested against real Go, not proved from fmt's source: count such statements apart). THE CARD IS WHAT COUNTS. Prove the row's statement (the work); the ties are given (YthncmfchphigdaaDoorTie.lean); close each card by the builder's one call (the guide's Derived/Test/ToyasCard.lean, 'card_holds'). Laid BY PROGRAM, IN A SANDBOX (cutbox-door.mjs). By AI agents, Wed Nov 11 2026. No macro, syntax, notation, axiom, sorry.
-/
import Derived.Test.YthncmfchphigdaaDoorRows
import GoSem.ClaimSeven
namespace Go.Proofs.YthncmfchphigdaaDoor
namespace Rows

/-- THE TIED CARD OF 'marshalyardlaw09.PointTimes'. -/
def pointTimesCard : Claim7 := { stood := { row := pointTimesRow, standIns := [], harness := (true, "591bc850a55c1e01072219c582a70407654d8cc639fa3f8c628468b7a0644976"), looks := true }, kinds := [], alts := [], laidByText := true, laidKinds := [.data, .data, .data], laidTests := true, laidLooks := .later }
def PointTimesCardSaid : Prop := Claim7.holds Tryd.pinned (.plain (OpenSpec.ofChange pointTimesSpec)) pointTimesCard

/-- THE TIED CARD OF 'marshalyardlaw09.PointNorms'. -/
def pointNormsCard : Claim7 := { stood := { row := pointNormsRow, standIns := [], harness := (true, "591bc850a55c1e01072219c582a70407654d8cc639fa3f8c628468b7a0644976"), looks := true }, kinds := [], alts := [], laidByText := true, laidKinds := [.data, .data, .data], laidTests := true, laidLooks := .later }
def PointNormsCardSaid : Prop := Claim7.holds Tryd.pinned (.plain (OpenSpec.ofChange pointNormsSpec)) pointNormsCard

/-- THE TIED CARD OF 'marshalyardlaw09.PointAdds'. -/
def pointAddsCard : Claim7 := { stood := { row := pointAddsRow, standIns := [], harness := (true, "591bc850a55c1e01072219c582a70407654d8cc639fa3f8c628468b7a0644976"), looks := true }, kinds := [], alts := [], laidByText := true, laidKinds := [.data, .data, .data], laidTests := true, laidLooks := .later }
def PointAddsCardSaid : Prop := Claim7.holds Tryd.pinned (.plain (OpenSpec.ofChange pointAddsSpec)) pointAddsCard

/-- THE TIED CARD OF 'marshalyardlaw09.PointLaws'. -/
def pointLawsCard : Claim7 := { stood := { row := pointLawsRow, standIns := [], harness := (true, "591bc850a55c1e01072219c582a70407654d8cc639fa3f8c628468b7a0644976"), looks := true }, kinds := [], alts := [], laidByText := true, laidKinds := [.data, .data, .data], laidTests := true, laidLooks := .later }
def PointLawsCardSaid : Prop := Claim7.holds Tryd.pinned (.plain (OpenSpec.ofChange pointLawsSpec)) pointLawsCard

/-- THE TIED CARD OF 'marshalyardlaw09.PointRests'. -/
def pointRestsCard : Claim7 := { stood := { row := pointRestsRow, standIns := [], harness := (true, "591bc850a55c1e01072219c582a70407654d8cc639fa3f8c628468b7a0644976"), looks := true }, kinds := [], alts := [], laidByText := true, laidKinds := [.data, .data, .data], laidTests := true, laidLooks := .later }
def PointRestsCardSaid : Prop := Claim7.holds Tryd.pinned (.plain (OpenSpec.ofChange pointRestsSpec)) pointRestsCard

/-- THE TIED CARD OF 'marshalyardlaw09.PointTurns'. -/
def pointTurnsCard : Claim7 := { stood := { row := pointTurnsRow, standIns := [], harness := (true, "591bc850a55c1e01072219c582a70407654d8cc639fa3f8c628468b7a0644976"), looks := true }, kinds := [], alts := [], laidByText := true, laidKinds := [.data, .data, .data], laidTests := true, laidLooks := .later }
def PointTurnsCardSaid : Prop := Claim7.holds Tryd.pinned (.plain (OpenSpec.ofChange pointTurnsSpec)) pointTurnsCard

/-- THE TIED CARD OF 'marshalyardlaw09.PointRound'. -/
def pointRoundCard : Claim7 := { stood := { row := pointRoundRow, standIns := [], harness := (true, "591bc850a55c1e01072219c582a70407654d8cc639fa3f8c628468b7a0644976"), looks := true }, kinds := [], alts := [], laidByText := true, laidKinds := [.data, .data, .data], laidTests := true, laidLooks := .later }
def PointRoundCardSaid : Prop := Claim7.holds Tryd.pinned (.plain (OpenSpec.ofChange pointRoundSpec)) pointRoundCard

/-- THE TIED CARD OF 'marshalyardlaw09.PointHalf'. -/
def pointHalfCard : Claim7 := { stood := { row := pointHalfRow, standIns := [], harness := (true, "591bc850a55c1e01072219c582a70407654d8cc639fa3f8c628468b7a0644976"), looks := true }, kinds := [], alts := [], laidByText := true, laidKinds := [.data, .data, .data], laidTests := true, laidLooks := .later }
def PointHalfCardSaid : Prop := Claim7.holds Tryd.pinned (.plain (OpenSpec.ofChange pointHalfSpec)) pointHalfCard

/-- THE TIED CARD OF 'marshalyardlaw09.PointPrints'. -/
def pointPrintsCard : Claim7 := { stood := { row := pointPrintsRow, standIns := [], harness := (true, "591bc850a55c1e01072219c582a70407654d8cc639fa3f8c628468b7a0644976"), looks := true }, kinds := [], alts := [], laidByText := true, laidKinds := [.data, .data, .data, .data, .sentinel, .sentinel, .pinned], laidTests := true, laidLooks := .later }
def PointPrintsCardSaid : Prop := Claim7.holds Tryd.pinned (.plain (OpenSpec.ofChange pointPrintsSpec)) pointPrintsCard

/-- THE TIED CARD OF 'marshalyardlaw09.PointParses'. -/
def pointParsesCard : Claim7 := { stood := { row := pointParsesRow, standIns := [], harness := (true, "591bc850a55c1e01072219c582a70407654d8cc639fa3f8c628468b7a0644976"), looks := true }, kinds := [], alts := [], laidByText := true, laidKinds := [.data, .data, .data, .data, .sentinel, .sentinel, .pinned], laidTests := true, laidLooks := .later }
def PointParsesCardSaid : Prop := Claim7.holds Tryd.pinned (.plain (OpenSpec.ofChange pointParsesSpec)) pointParsesCard

/-- THE SECOND FORM's CARD OF 'marshalyardlaw09.PointTimes'. -/
def pointTimesUptoCard : Claim7 := { stood := { row := pointTimesUptoRow, standIns := [], harness := (true, "591bc850a55c1e01072219c582a70407654d8cc639fa3f8c628468b7a0644976"), looks := true }, kinds := [], alts := [], laidByText := true, laidKinds := [.data, .data, .data], laidTests := true, laidLooks := .later }
def PointTimesUptoCardSaid : Prop := Claim7.holds Tryd.pinned (.plain (OpenSpec.upto pointTimesSpec)) pointTimesUptoCard

/-- THE SECOND FORM's CARD OF 'marshalyardlaw09.PointNorms'. -/
def pointNormsUptoCard : Claim7 := { stood := { row := pointNormsUptoRow, standIns := [], harness := (true, "591bc850a55c1e01072219c582a70407654d8cc639fa3f8c628468b7a0644976"), looks := true }, kinds := [], alts := [], laidByText := true, laidKinds := [.data, .data, .data], laidTests := true, laidLooks := .later }
def PointNormsUptoCardSaid : Prop := Claim7.holds Tryd.pinned (.plain (OpenSpec.upto pointNormsSpec)) pointNormsUptoCard

/-- THE SECOND FORM's CARD OF 'marshalyardlaw09.PointAdds'. -/
def pointAddsUptoCard : Claim7 := { stood := { row := pointAddsUptoRow, standIns := [], harness := (true, "591bc850a55c1e01072219c582a70407654d8cc639fa3f8c628468b7a0644976"), looks := true }, kinds := [], alts := [], laidByText := true, laidKinds := [.data, .data, .data], laidTests := true, laidLooks := .later }
def PointAddsUptoCardSaid : Prop := Claim7.holds Tryd.pinned (.plain (OpenSpec.upto pointAddsSpec)) pointAddsUptoCard

/-- THE SECOND FORM's CARD OF 'marshalyardlaw09.PointLaws'. -/
def pointLawsUptoCard : Claim7 := { stood := { row := pointLawsUptoRow, standIns := [], harness := (true, "591bc850a55c1e01072219c582a70407654d8cc639fa3f8c628468b7a0644976"), looks := true }, kinds := [], alts := [], laidByText := true, laidKinds := [.data, .data, .data], laidTests := true, laidLooks := .later }
def PointLawsUptoCardSaid : Prop := Claim7.holds Tryd.pinned (.plain (OpenSpec.upto pointLawsSpec)) pointLawsUptoCard

/-- THE SECOND FORM's CARD OF 'marshalyardlaw09.PointRests'. -/
def pointRestsUptoCard : Claim7 := { stood := { row := pointRestsUptoRow, standIns := [], harness := (true, "591bc850a55c1e01072219c582a70407654d8cc639fa3f8c628468b7a0644976"), looks := true }, kinds := [], alts := [], laidByText := true, laidKinds := [.data, .data, .data], laidTests := true, laidLooks := .later }
def PointRestsUptoCardSaid : Prop := Claim7.holds Tryd.pinned (.plain (OpenSpec.upto pointRestsSpec)) pointRestsUptoCard

/-- THE SECOND FORM's CARD OF 'marshalyardlaw09.PointTurns'. -/
def pointTurnsUptoCard : Claim7 := { stood := { row := pointTurnsUptoRow, standIns := [], harness := (true, "591bc850a55c1e01072219c582a70407654d8cc639fa3f8c628468b7a0644976"), looks := true }, kinds := [], alts := [], laidByText := true, laidKinds := [.data, .data, .data], laidTests := true, laidLooks := .later }
def PointTurnsUptoCardSaid : Prop := Claim7.holds Tryd.pinned (.plain (OpenSpec.upto pointTurnsSpec)) pointTurnsUptoCard

/-- THE SECOND FORM's CARD OF 'marshalyardlaw09.PointRound'. -/
def pointRoundUptoCard : Claim7 := { stood := { row := pointRoundUptoRow, standIns := [], harness := (true, "591bc850a55c1e01072219c582a70407654d8cc639fa3f8c628468b7a0644976"), looks := true }, kinds := [], alts := [], laidByText := true, laidKinds := [.data, .data, .data], laidTests := true, laidLooks := .later }
def PointRoundUptoCardSaid : Prop := Claim7.holds Tryd.pinned (.plain (OpenSpec.upto pointRoundSpec)) pointRoundUptoCard

/-- THE SECOND FORM's CARD OF 'marshalyardlaw09.PointHalf'. -/
def pointHalfUptoCard : Claim7 := { stood := { row := pointHalfUptoRow, standIns := [], harness := (true, "591bc850a55c1e01072219c582a70407654d8cc639fa3f8c628468b7a0644976"), looks := true }, kinds := [], alts := [], laidByText := true, laidKinds := [.data, .data, .data], laidTests := true, laidLooks := .later }
def PointHalfUptoCardSaid : Prop := Claim7.holds Tryd.pinned (.plain (OpenSpec.upto pointHalfSpec)) pointHalfUptoCard

/-- THE SECOND FORM's CARD OF 'marshalyardlaw09.PointPrints'. -/
def pointPrintsUptoCard : Claim7 := { stood := { row := pointPrintsUptoRow, standIns := [], harness := (true, "591bc850a55c1e01072219c582a70407654d8cc639fa3f8c628468b7a0644976"), looks := true }, kinds := [], alts := [], laidByText := true, laidKinds := [.data, .data, .data, .data, .sentinel, .sentinel, .pinned], laidTests := true, laidLooks := .later }
def PointPrintsUptoCardSaid : Prop := Claim7.holds Tryd.pinned (.plain (OpenSpec.upto pointPrintsSpec)) pointPrintsUptoCard

/-- THE SECOND FORM's CARD OF 'marshalyardlaw09.PointParses'. -/
def pointParsesUptoCard : Claim7 := { stood := { row := pointParsesUptoRow, standIns := [], harness := (true, "591bc850a55c1e01072219c582a70407654d8cc639fa3f8c628468b7a0644976"), looks := true }, kinds := [], alts := [], laidByText := true, laidKinds := [.data, .data, .data, .data, .sentinel, .sentinel, .pinned], laidTests := true, laidLooks := .later }
def PointParsesUptoCardSaid : Prop := Claim7.holds Tryd.pinned (.plain (OpenSpec.upto pointParsesSpec)) pointParsesUptoCard
end Rows
end Go.Proofs.YthncmfchphigdaaDoor
