/-
  DERIVED. GIVEN WITH THE SEED: THE CARDS: each row of YtdfijefgklhmdaaDoorRows.lean that lists a variable, with what it lists TIED to the program's text (the seventh form; the later family's looks); each row that meets fmt, with fmt's text TOLD by the authors' own Lean function (tested against real Go, not proved from fmt's source: count such statements apart). THE CARD IS WHAT COUNTS. Prove the row's statement (the work); the ties are given (YtdfijefgklhmdaaDoorTie.lean); close each card by the builder's one call (the guide's Derived/Test/ToyasCard.lean, 'card_holds'). Laid BY PROGRAM, IN A SANDBOX (cutbox-door.mjs). By AI agents, Wed Nov 11 2026. No macro, syntax, notation, axiom, sorry.
-/
import Derived.Test.YtdfijefgklhmdaaDoorRows
import GoSem.ClaimSeven
namespace Go.Proofs.YtdfijefgklhmdaaDoor
namespace Rows

/-- THE TIED CARD OF 'marshalyardlaw20.ReshardPlans'. -/
def reshardPlansCard : Claim7 := { stood := { row := reshardPlansRow, standIns := [], harness := (true, "29927e7986d03b1009fd59cfe82cc4006548f5923c025fc6968858f58157e54e"), looks := false }, kinds := [], alts := [], laidByText := true, laidKinds := [.data, .data, .data], laidTests := true, laidLooks := .later }
def ReshardPlansCardSaid : Prop := Claim7.holds Tryd.pinned (.plain (OpenSpec.ofChange reshardPlansSpec)) reshardPlansCard

/-- THE TIED CARD OF 'marshalyardlaw20.ReshardKeeps'. -/
def reshardKeepsCard : Claim7 := { stood := { row := reshardKeepsRow, standIns := [], harness := (true, "29927e7986d03b1009fd59cfe82cc4006548f5923c025fc6968858f58157e54e"), looks := false }, kinds := [], alts := [], laidByText := true, laidKinds := [.data, .data, .data], laidTests := true, laidLooks := .later }
def ReshardKeepsCardSaid : Prop := Claim7.holds Tryd.pinned (.plain (OpenSpec.ofChange reshardKeepsSpec)) reshardKeepsCard

/-- THE TIED CARD OF 'marshalyardlaw20.ReshardWaits'. -/
def reshardWaitsCard : Claim7 := { stood := { row := reshardWaitsRow, standIns := [], harness := (true, "29927e7986d03b1009fd59cfe82cc4006548f5923c025fc6968858f58157e54e"), looks := false }, kinds := [], alts := [], laidByText := true, laidKinds := [.data, .data, .data], laidTests := true, laidLooks := .later }
def ReshardWaitsCardSaid : Prop := Claim7.holds Tryd.pinned (.plain (OpenSpec.ofChange reshardWaitsSpec)) reshardWaitsCard

/-- THE TIED CARD OF 'marshalyardlaw20.ReshardAll'. -/
def reshardAllCard : Claim7 := { stood := { row := reshardAllRow, standIns := [], harness := (true, "29927e7986d03b1009fd59cfe82cc4006548f5923c025fc6968858f58157e54e"), looks := false }, kinds := [], alts := [], laidByText := true, laidKinds := [.data, .data, .data], laidTests := true, laidLooks := .later }
def ReshardAllCardSaid : Prop := Claim7.holds Tryd.pinned (.plain (OpenSpec.ofChange reshardAllSpec)) reshardAllCard

/-- THE TIED CARD OF 'marshalyardlaw20.ReshardEnds'. -/
def reshardEndsCard : Claim7 := { stood := { row := reshardEndsRow, standIns := [], harness := (true, "29927e7986d03b1009fd59cfe82cc4006548f5923c025fc6968858f58157e54e"), looks := false }, kinds := [], alts := [], laidByText := true, laidKinds := [.data, .data, .data], laidTests := true, laidLooks := .later }
def ReshardEndsCardSaid : Prop := Claim7.holds Tryd.pinned (.plain (OpenSpec.ofChange reshardEndsSpec)) reshardEndsCard

/-- THE SECOND FORM's CARD OF 'marshalyardlaw20.ReshardPlans'. -/
def reshardPlansUptoCard : Claim7 := { stood := { row := reshardPlansUptoRow, standIns := [], harness := (true, "29927e7986d03b1009fd59cfe82cc4006548f5923c025fc6968858f58157e54e"), looks := false }, kinds := [], alts := [], laidByText := true, laidKinds := [.data, .data, .data], laidTests := true, laidLooks := .later }
def ReshardPlansUptoCardSaid : Prop := Claim7.holds Tryd.pinned (.plain (OpenSpec.upto reshardPlansSpec)) reshardPlansUptoCard

/-- THE SECOND FORM's CARD OF 'marshalyardlaw20.ReshardKeeps'. -/
def reshardKeepsUptoCard : Claim7 := { stood := { row := reshardKeepsUptoRow, standIns := [], harness := (true, "29927e7986d03b1009fd59cfe82cc4006548f5923c025fc6968858f58157e54e"), looks := false }, kinds := [], alts := [], laidByText := true, laidKinds := [.data, .data, .data], laidTests := true, laidLooks := .later }
def ReshardKeepsUptoCardSaid : Prop := Claim7.holds Tryd.pinned (.plain (OpenSpec.upto reshardKeepsSpec)) reshardKeepsUptoCard

/-- THE SECOND FORM's CARD OF 'marshalyardlaw20.ReshardWaits'. -/
def reshardWaitsUptoCard : Claim7 := { stood := { row := reshardWaitsUptoRow, standIns := [], harness := (true, "29927e7986d03b1009fd59cfe82cc4006548f5923c025fc6968858f58157e54e"), looks := false }, kinds := [], alts := [], laidByText := true, laidKinds := [.data, .data, .data], laidTests := true, laidLooks := .later }
def ReshardWaitsUptoCardSaid : Prop := Claim7.holds Tryd.pinned (.plain (OpenSpec.upto reshardWaitsSpec)) reshardWaitsUptoCard

/-- THE SECOND FORM's CARD OF 'marshalyardlaw20.ReshardAll'. -/
def reshardAllUptoCard : Claim7 := { stood := { row := reshardAllUptoRow, standIns := [], harness := (true, "29927e7986d03b1009fd59cfe82cc4006548f5923c025fc6968858f58157e54e"), looks := false }, kinds := [], alts := [], laidByText := true, laidKinds := [.data, .data, .data], laidTests := true, laidLooks := .later }
def ReshardAllUptoCardSaid : Prop := Claim7.holds Tryd.pinned (.plain (OpenSpec.upto reshardAllSpec)) reshardAllUptoCard

/-- THE SECOND FORM's CARD OF 'marshalyardlaw20.ReshardEnds'. -/
def reshardEndsUptoCard : Claim7 := { stood := { row := reshardEndsUptoRow, standIns := [], harness := (true, "29927e7986d03b1009fd59cfe82cc4006548f5923c025fc6968858f58157e54e"), looks := false }, kinds := [], alts := [], laidByText := true, laidKinds := [.data, .data, .data], laidTests := true, laidLooks := .later }
def ReshardEndsUptoCardSaid : Prop := Claim7.holds Tryd.pinned (.plain (OpenSpec.upto reshardEndsSpec)) reshardEndsUptoCard
end Rows
end Go.Proofs.YtdfijefgklhmdaaDoor
