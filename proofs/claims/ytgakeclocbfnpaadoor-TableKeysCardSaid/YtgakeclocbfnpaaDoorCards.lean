/-
  DERIVED. GIVEN WITH THE SEED: THE CARDS: each row of YtgakeclocbfnpaaDoorRows.lean that lists a variable, with what it lists TIED to the program's text (the seventh form; the later family's looks); each row that meets fmt, with fmt's text TOLD by the authors' own Lean function (tested against real Go, not proved from fmt's source: count such statements apart). THE CARD IS WHAT COUNTS. Prove the row's statement (the work); the ties are given (YtgakeclocbfnpaaDoorTie.lean); close each card by the builder's one call (the guide's Derived/Test/ToyasCard.lean, 'card_holds'). Laid BY PROGRAM, IN A SANDBOX (cutbox-door.mjs). By AI agents, Wed Nov 11 2026. No macro, syntax, notation, axiom, sorry.
-/
import Derived.Test.YtgakeclocbfnpaaDoorRows
import GoSem.ClaimSeven
namespace Go.Proofs.YtgakeclocbfnpaaDoor
namespace Rows

/-- THE TIED CARD OF 'marshalyardlaw12.TableAll'. -/
def tableAllCard : Claim7 := { stood := { row := tableAllRow, standIns := [], harness := (true, "6f8a32b787c5f543f767252d52195ade336b0a5ccb1a1c9d63b78ed23abae7ff"), looks := false }, kinds := [], alts := [], laidByText := true, laidKinds := [.data, .pinned], laidTests := true, laidLooks := .later }
def TableAllCardSaid : Prop := Claim7.holds Tryd.pinned (.plain (OpenSpec.ofChange tableAllSpec)) tableAllCard

/-- THE TIED CARD OF 'marshalyardlaw12.TableFinds'. -/
def tableFindsCard : Claim7 := { stood := { row := tableFindsRow, standIns := [], harness := (true, "6f8a32b787c5f543f767252d52195ade336b0a5ccb1a1c9d63b78ed23abae7ff"), looks := false }, kinds := [], alts := [], laidByText := true, laidKinds := [.data, .pinned], laidTests := true, laidLooks := .later }
def TableFindsCardSaid : Prop := Claim7.holds Tryd.pinned (.plain (OpenSpec.ofChange tableFindsSpec)) tableFindsCard

/-- THE TIED CARD OF 'marshalyardlaw12.TableChecks'. -/
def tableChecksCard : Claim7 := { stood := { row := tableChecksRow, standIns := [], harness := (true, "6f8a32b787c5f543f767252d52195ade336b0a5ccb1a1c9d63b78ed23abae7ff"), looks := false }, kinds := [], alts := [], laidByText := true, laidKinds := [.data, .pinned], laidTests := true, laidLooks := .later }
def TableChecksCardSaid : Prop := Claim7.holds Tryd.pinned (.plain (OpenSpec.ofChange tableChecksSpec)) tableChecksCard

/-- THE TIED CARD OF 'marshalyardlaw12.TableKeys'. -/
def tableKeysCard : Claim7 := { stood := { row := tableKeysRow, standIns := [], harness := (true, "6f8a32b787c5f543f767252d52195ade336b0a5ccb1a1c9d63b78ed23abae7ff"), looks := false }, kinds := [], alts := [], laidByText := true, laidKinds := [.data, .pinned], laidTests := true, laidLooks := .later }
def TableKeysCardSaid : Prop := Claim7.holds Tryd.pinned (.plain (OpenSpec.ofChange tableKeysSpec)) tableKeysCard

/-- THE TIED CARD OF 'marshalyardlaw12.TableLetters'. -/
def tableLettersCard : Claim7 := { stood := { row := tableLettersRow, standIns := [], harness := (true, "6f8a32b787c5f543f767252d52195ade336b0a5ccb1a1c9d63b78ed23abae7ff"), looks := false }, kinds := [], alts := [], laidByText := true, laidKinds := [.data, .pinned], laidTests := true, laidLooks := .later }
def TableLettersCardSaid : Prop := Claim7.holds Tryd.pinned (.plain (OpenSpec.ofChange tableLettersSpec)) tableLettersCard

/-- THE TIED CARD OF 'marshalyardlaw12.TableStands'. -/
def tableStandsCard : Claim7 := { stood := { row := tableStandsRow, standIns := [], harness := (true, "6f8a32b787c5f543f767252d52195ade336b0a5ccb1a1c9d63b78ed23abae7ff"), looks := false }, kinds := [], alts := [], laidByText := true, laidKinds := [.data, .pinned], laidTests := true, laidLooks := .later }
def TableStandsCardSaid : Prop := Claim7.holds Tryd.pinned (.plain (OpenSpec.ofChange tableStandsSpec)) tableStandsCard

/-- THE SECOND FORM's CARD OF 'marshalyardlaw12.TableAll'. -/
def tableAllUptoCard : Claim7 := { stood := { row := tableAllUptoRow, standIns := [], harness := (true, "6f8a32b787c5f543f767252d52195ade336b0a5ccb1a1c9d63b78ed23abae7ff"), looks := false }, kinds := [], alts := [], laidByText := true, laidKinds := [.data, .pinned], laidTests := true, laidLooks := .later }
def TableAllUptoCardSaid : Prop := Claim7.holds Tryd.pinned (.plain (OpenSpec.upto tableAllSpec)) tableAllUptoCard

/-- THE SECOND FORM's CARD OF 'marshalyardlaw12.TableFinds'. -/
def tableFindsUptoCard : Claim7 := { stood := { row := tableFindsUptoRow, standIns := [], harness := (true, "6f8a32b787c5f543f767252d52195ade336b0a5ccb1a1c9d63b78ed23abae7ff"), looks := false }, kinds := [], alts := [], laidByText := true, laidKinds := [.data, .pinned], laidTests := true, laidLooks := .later }
def TableFindsUptoCardSaid : Prop := Claim7.holds Tryd.pinned (.plain (OpenSpec.upto tableFindsSpec)) tableFindsUptoCard

/-- THE SECOND FORM's CARD OF 'marshalyardlaw12.TableChecks'. -/
def tableChecksUptoCard : Claim7 := { stood := { row := tableChecksUptoRow, standIns := [], harness := (true, "6f8a32b787c5f543f767252d52195ade336b0a5ccb1a1c9d63b78ed23abae7ff"), looks := false }, kinds := [], alts := [], laidByText := true, laidKinds := [.data, .pinned], laidTests := true, laidLooks := .later }
def TableChecksUptoCardSaid : Prop := Claim7.holds Tryd.pinned (.plain (OpenSpec.upto tableChecksSpec)) tableChecksUptoCard

/-- THE SECOND FORM's CARD OF 'marshalyardlaw12.TableKeys'. -/
def tableKeysUptoCard : Claim7 := { stood := { row := tableKeysUptoRow, standIns := [], harness := (true, "6f8a32b787c5f543f767252d52195ade336b0a5ccb1a1c9d63b78ed23abae7ff"), looks := false }, kinds := [], alts := [], laidByText := true, laidKinds := [.data, .pinned], laidTests := true, laidLooks := .later }
def TableKeysUptoCardSaid : Prop := Claim7.holds Tryd.pinned (.plain (OpenSpec.upto tableKeysSpec)) tableKeysUptoCard

/-- THE SECOND FORM's CARD OF 'marshalyardlaw12.TableLetters'. -/
def tableLettersUptoCard : Claim7 := { stood := { row := tableLettersUptoRow, standIns := [], harness := (true, "6f8a32b787c5f543f767252d52195ade336b0a5ccb1a1c9d63b78ed23abae7ff"), looks := false }, kinds := [], alts := [], laidByText := true, laidKinds := [.data, .pinned], laidTests := true, laidLooks := .later }
def TableLettersUptoCardSaid : Prop := Claim7.holds Tryd.pinned (.plain (OpenSpec.upto tableLettersSpec)) tableLettersUptoCard

/-- THE SECOND FORM's CARD OF 'marshalyardlaw12.TableStands'. -/
def tableStandsUptoCard : Claim7 := { stood := { row := tableStandsUptoRow, standIns := [], harness := (true, "6f8a32b787c5f543f767252d52195ade336b0a5ccb1a1c9d63b78ed23abae7ff"), looks := false }, kinds := [], alts := [], laidByText := true, laidKinds := [.data, .pinned], laidTests := true, laidLooks := .later }
def TableStandsUptoCardSaid : Prop := Claim7.holds Tryd.pinned (.plain (OpenSpec.upto tableStandsSpec)) tableStandsUptoCard
end Rows
end Go.Proofs.YtgakeclocbfnpaaDoor
