/-
  DERIVED. GIVEN WITH THE SEED: THE CARDS: each row of YtdpgkihecpjijaaDoorRows.lean that lists a variable, with what it lists TIED to the program's text (the seventh form; the later family's looks); each row that meets fmt, with fmt's text TOLD by the authors' own Lean function (tested against real Go, not proved from fmt's source: count such statements apart). THE CARD IS WHAT COUNTS. Prove the row's statement (the work); the ties are given (YtdpgkihecpjijaaDoorTie.lean); close each card by the builder's one call (the guide's Derived/Test/ToyasCard.lean, 'card_holds'). Laid BY PROGRAM, IN A SANDBOX (cutbox-door.mjs). By AI agents, Wed Nov 11 2026. No macro, syntax, notation, axiom, sorry.
-/
import Derived.Test.YtdpgkihecpjijaaDoorRows
import GoSem.ClaimSeven
namespace Go.Proofs.YtdpgkihecpjijaaDoor
namespace Rows

/-- THE TIED CARD OF 'marshalyardlaw10.ValueDumps'. -/
def valueDumpsCard : Claim7 := { stood := { row := valueDumpsRow, standIns := [], harness := (true, "0cad5bd9bfac0786554a5b11820d577d3e58ccb8a7e2250f91f796b2537da47b"), looks := false }, kinds := [], alts := [], laidByText := true, laidKinds := [.data], laidTests := true, laidLooks := .later }
def ValueDumpsCardSaid : Prop := Claim7.holds Tryd.pinned (.plain (OpenSpec.ofChange valueDumpsSpec)) valueDumpsCard

/-- THE TIED CARD OF 'marshalyardlaw10.ValueLoads'. -/
def valueLoadsCard : Claim7 := { stood := { row := valueLoadsRow, standIns := [], harness := (true, "0cad5bd9bfac0786554a5b11820d577d3e58ccb8a7e2250f91f796b2537da47b"), looks := false }, kinds := [], alts := [], laidByText := true, laidKinds := [.data], laidTests := true, laidLooks := .later }
def ValueLoadsCardSaid : Prop := Claim7.holds Tryd.pinned (.plain (OpenSpec.ofChange valueLoadsSpec)) valueLoadsCard

/-- THE TIED CARD OF 'marshalyardlaw10.ValueBack'. -/
def valueBackCard : Claim7 := { stood := { row := valueBackRow, standIns := [], harness := (true, "0cad5bd9bfac0786554a5b11820d577d3e58ccb8a7e2250f91f796b2537da47b"), looks := false }, kinds := [], alts := [], laidByText := true, laidKinds := [.data], laidTests := true, laidLooks := .later }
def ValueBackCardSaid : Prop := Claim7.holds Tryd.pinned (.plain (OpenSpec.ofChange valueBackSpec)) valueBackCard

/-- THE TIED CARD OF 'marshalyardlaw10.ValueBursts'. -/
def valueBurstsCard : Claim7 := { stood := { row := valueBurstsRow, standIns := [], harness := (true, "0cad5bd9bfac0786554a5b11820d577d3e58ccb8a7e2250f91f796b2537da47b"), looks := false }, kinds := [], alts := [], laidByText := true, laidKinds := [.data], laidTests := true, laidLooks := .later }
def ValueBurstsCardSaid : Prop := Claim7.holds Tryd.pinned (.plain (OpenSpec.ofChange valueBurstsSpec)) valueBurstsCard

/-- THE TIED CARD OF 'marshalyardlaw10.ValueAgain'. -/
def valueAgainCard : Claim7 := { stood := { row := valueAgainRow, standIns := [], harness := (true, "0cad5bd9bfac0786554a5b11820d577d3e58ccb8a7e2250f91f796b2537da47b"), looks := false }, kinds := [], alts := [], laidByText := true, laidKinds := [.data], laidTests := true, laidLooks := .later }
def ValueAgainCardSaid : Prop := Claim7.holds Tryd.pinned (.plain (OpenSpec.ofChange valueAgainSpec)) valueAgainCard

/-- THE TIED CARD OF 'marshalyardlaw10.ValueUnlike'. -/
def valueUnlikeCard : Claim7 := { stood := { row := valueUnlikeRow, standIns := [], harness := (true, "0cad5bd9bfac0786554a5b11820d577d3e58ccb8a7e2250f91f796b2537da47b"), looks := false }, kinds := [], alts := [], laidByText := true, laidKinds := [.data], laidTests := true, laidLooks := .later }
def ValueUnlikeCardSaid : Prop := Claim7.holds Tryd.pinned (.plain (OpenSpec.ofChange valueUnlikeSpec)) valueUnlikeCard

/-- THE TIED CARD OF 'marshalyardlaw10.ValueRight'. -/
def valueRightCard : Claim7 := { stood := { row := valueRightRow, standIns := [], harness := (true, "0cad5bd9bfac0786554a5b11820d577d3e58ccb8a7e2250f91f796b2537da47b"), looks := false }, kinds := [], alts := [], laidByText := true, laidKinds := [.data], laidTests := true, laidLooks := .later }
def ValueRightCardSaid : Prop := Claim7.holds Tryd.pinned (.plain (OpenSpec.ofChange valueRightSpec)) valueRightCard

/-- THE TIED CARD OF 'marshalyardlaw10.ValueSame'. -/
def valueSameCard : Claim7 := { stood := { row := valueSameRow, standIns := [], harness := (true, "0cad5bd9bfac0786554a5b11820d577d3e58ccb8a7e2250f91f796b2537da47b"), looks := false }, kinds := [], alts := [], laidByText := true, laidKinds := [.data], laidTests := true, laidLooks := .later }
def ValueSameCardSaid : Prop := Claim7.holds Tryd.pinned (.plain (OpenSpec.ofChange valueSameSpec)) valueSameCard

/-- THE SECOND FORM's CARD OF 'marshalyardlaw10.ValueDumps'. -/
def valueDumpsUptoCard : Claim7 := { stood := { row := valueDumpsUptoRow, standIns := [], harness := (true, "0cad5bd9bfac0786554a5b11820d577d3e58ccb8a7e2250f91f796b2537da47b"), looks := false }, kinds := [], alts := [], laidByText := true, laidKinds := [.data], laidTests := true, laidLooks := .later }
def ValueDumpsUptoCardSaid : Prop := Claim7.holds Tryd.pinned (.plain (OpenSpec.upto valueDumpsSpec)) valueDumpsUptoCard

/-- THE SECOND FORM's CARD OF 'marshalyardlaw10.ValueLoads'. -/
def valueLoadsUptoCard : Claim7 := { stood := { row := valueLoadsUptoRow, standIns := [], harness := (true, "0cad5bd9bfac0786554a5b11820d577d3e58ccb8a7e2250f91f796b2537da47b"), looks := false }, kinds := [], alts := [], laidByText := true, laidKinds := [.data], laidTests := true, laidLooks := .later }
def ValueLoadsUptoCardSaid : Prop := Claim7.holds Tryd.pinned (.plain (OpenSpec.upto valueLoadsSpec)) valueLoadsUptoCard

/-- THE SECOND FORM's CARD OF 'marshalyardlaw10.ValueBack'. -/
def valueBackUptoCard : Claim7 := { stood := { row := valueBackUptoRow, standIns := [], harness := (true, "0cad5bd9bfac0786554a5b11820d577d3e58ccb8a7e2250f91f796b2537da47b"), looks := false }, kinds := [], alts := [], laidByText := true, laidKinds := [.data], laidTests := true, laidLooks := .later }
def ValueBackUptoCardSaid : Prop := Claim7.holds Tryd.pinned (.plain (OpenSpec.upto valueBackSpec)) valueBackUptoCard

/-- THE SECOND FORM's CARD OF 'marshalyardlaw10.ValueBursts'. -/
def valueBurstsUptoCard : Claim7 := { stood := { row := valueBurstsUptoRow, standIns := [], harness := (true, "0cad5bd9bfac0786554a5b11820d577d3e58ccb8a7e2250f91f796b2537da47b"), looks := false }, kinds := [], alts := [], laidByText := true, laidKinds := [.data], laidTests := true, laidLooks := .later }
def ValueBurstsUptoCardSaid : Prop := Claim7.holds Tryd.pinned (.plain (OpenSpec.upto valueBurstsSpec)) valueBurstsUptoCard

/-- THE SECOND FORM's CARD OF 'marshalyardlaw10.ValueAgain'. -/
def valueAgainUptoCard : Claim7 := { stood := { row := valueAgainUptoRow, standIns := [], harness := (true, "0cad5bd9bfac0786554a5b11820d577d3e58ccb8a7e2250f91f796b2537da47b"), looks := false }, kinds := [], alts := [], laidByText := true, laidKinds := [.data], laidTests := true, laidLooks := .later }
def ValueAgainUptoCardSaid : Prop := Claim7.holds Tryd.pinned (.plain (OpenSpec.upto valueAgainSpec)) valueAgainUptoCard

/-- THE SECOND FORM's CARD OF 'marshalyardlaw10.ValueUnlike'. -/
def valueUnlikeUptoCard : Claim7 := { stood := { row := valueUnlikeUptoRow, standIns := [], harness := (true, "0cad5bd9bfac0786554a5b11820d577d3e58ccb8a7e2250f91f796b2537da47b"), looks := false }, kinds := [], alts := [], laidByText := true, laidKinds := [.data], laidTests := true, laidLooks := .later }
def ValueUnlikeUptoCardSaid : Prop := Claim7.holds Tryd.pinned (.plain (OpenSpec.upto valueUnlikeSpec)) valueUnlikeUptoCard

/-- THE SECOND FORM's CARD OF 'marshalyardlaw10.ValueRight'. -/
def valueRightUptoCard : Claim7 := { stood := { row := valueRightUptoRow, standIns := [], harness := (true, "0cad5bd9bfac0786554a5b11820d577d3e58ccb8a7e2250f91f796b2537da47b"), looks := false }, kinds := [], alts := [], laidByText := true, laidKinds := [.data], laidTests := true, laidLooks := .later }
def ValueRightUptoCardSaid : Prop := Claim7.holds Tryd.pinned (.plain (OpenSpec.upto valueRightSpec)) valueRightUptoCard

/-- THE SECOND FORM's CARD OF 'marshalyardlaw10.ValueSame'. -/
def valueSameUptoCard : Claim7 := { stood := { row := valueSameUptoRow, standIns := [], harness := (true, "0cad5bd9bfac0786554a5b11820d577d3e58ccb8a7e2250f91f796b2537da47b"), looks := false }, kinds := [], alts := [], laidByText := true, laidKinds := [.data], laidTests := true, laidLooks := .later }
def ValueSameUptoCardSaid : Prop := Claim7.holds Tryd.pinned (.plain (OpenSpec.upto valueSameSpec)) valueSameUptoCard
end Rows
end Go.Proofs.YtdpgkihecpjijaaDoor
