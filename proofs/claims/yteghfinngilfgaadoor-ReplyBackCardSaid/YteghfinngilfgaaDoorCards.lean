/-
  DERIVED. GIVEN WITH THE SEED: THE CARDS: each row of YteghfinngilfgaaDoorRows.lean that lists a variable, with what it lists TIED to the program's text (the seventh form; the later family's looks); each row that meets fmt, with fmt's text TOLD by the authors' own Lean function (tested against real Go, not proved from fmt's source: count such statements apart). THE CARD IS WHAT COUNTS. Prove the row's statement (the work); the ties are given (YteghfinngilfgaaDoorTie.lean); close each card by the builder's one call (the guide's Derived/Test/ToyasCard.lean, 'card_holds'). Laid BY PROGRAM, IN A SANDBOX (cutbox-door.mjs). By AI agents, Wed Nov 11 2026. No macro, syntax, notation, axiom, sorry.
-/
import Derived.Test.YteghfinngilfgaaDoorRows
import GoSem.ClaimSeven
namespace Go.Proofs.YteghfinngilfgaaDoor
namespace Rows

/-- THE TIED CARD OF 'marshalyardlaw04.ReplyWrites'. -/
def replyWritesCard : Claim7 := { stood := { row := replyWritesRow, standIns := [], harness := (true, "c6f514b14bd85c72b29abd1f4ab27ce21949b9b281f03ee24afcea4be3a8fb55"), looks := true }, kinds := [], alts := [], laidByText := true, laidKinds := [.data, .data, .data, .sentinel, .sentinel], laidTests := true, laidLooks := .later }
def ReplyWritesCardSaid : Prop := Claim7.holds Tryd.pinned (.plain (OpenSpec.ofChange replyWritesSpec)) replyWritesCard

/-- THE TIED CARD OF 'marshalyardlaw04.ReplyLong'. -/
def replyLongCard : Claim7 := { stood := { row := replyLongRow, standIns := [], harness := (true, "c6f514b14bd85c72b29abd1f4ab27ce21949b9b281f03ee24afcea4be3a8fb55"), looks := true }, kinds := [], alts := [], laidByText := true, laidKinds := [.data, .data, .data, .sentinel, .sentinel], laidTests := true, laidLooks := .later }
def ReplyLongCardSaid : Prop := Claim7.holds Tryd.pinned (.plain (OpenSpec.ofChange replyLongSpec)) replyLongCard

/-- THE TIED CARD OF 'marshalyardlaw04.ReplyBack'. -/
def replyBackCard : Claim7 := { stood := { row := replyBackRow, standIns := [], harness := (true, "c6f514b14bd85c72b29abd1f4ab27ce21949b9b281f03ee24afcea4be3a8fb55"), looks := true }, kinds := [], alts := [], laidByText := true, laidKinds := [.data, .data, .data, .sentinel, .sentinel], laidTests := true, laidLooks := .later }
def ReplyBackCardSaid : Prop := Claim7.holds Tryd.pinned (.plain (OpenSpec.ofChange replyBackSpec)) replyBackCard

/-- THE TIED CARD OF 'marshalyardlaw04.ReplyCuts'. -/
def replyCutsCard : Claim7 := { stood := { row := replyCutsRow, standIns := [], harness := (true, "c6f514b14bd85c72b29abd1f4ab27ce21949b9b281f03ee24afcea4be3a8fb55"), looks := true }, kinds := [], alts := [], laidByText := true, laidKinds := [.data, .data, .data, .sentinel, .sentinel], laidTests := true, laidLooks := .later }
def ReplyCutsCardSaid : Prop := Claim7.holds Tryd.pinned (.plain (OpenSpec.ofChange replyCutsSpec)) replyCutsCard

/-- THE TIED CARD OF 'marshalyardlaw04.ReplySame'. -/
def replySameCard : Claim7 := { stood := { row := replySameRow, standIns := [], harness := (true, "c6f514b14bd85c72b29abd1f4ab27ce21949b9b281f03ee24afcea4be3a8fb55"), looks := true }, kinds := [], alts := [], laidByText := true, laidKinds := [.data, .data, .data, .sentinel, .sentinel], laidTests := true, laidLooks := .later }
def ReplySameCardSaid : Prop := Claim7.holds Tryd.pinned (.plain (OpenSpec.ofChange replySameSpec)) replySameCard

/-- THE TIED CARD OF 'marshalyardlaw04.ReplyMakes'. -/
def replyMakesCard : Claim7 := { stood := { row := replyMakesRow, standIns := [], harness := (true, "c6f514b14bd85c72b29abd1f4ab27ce21949b9b281f03ee24afcea4be3a8fb55"), looks := true }, kinds := [], alts := [], laidByText := true, laidKinds := [.data, .data, .data, .sentinel, .sentinel], laidTests := true, laidLooks := .later }
def ReplyMakesCardSaid : Prop := Claim7.holds Tryd.pinned (.plain (OpenSpec.ofChange replyMakesSpec)) replyMakesCard

/-- THE TIED CARD OF 'marshalyardlaw04.ReplyJoins'. -/
def replyJoinsCard : Claim7 := { stood := { row := replyJoinsRow, standIns := [], harness := (true, "c6f514b14bd85c72b29abd1f4ab27ce21949b9b281f03ee24afcea4be3a8fb55"), looks := true }, kinds := [], alts := [], laidByText := true, laidKinds := [.data, .data, .data, .sentinel, .sentinel], laidTests := true, laidLooks := .later }
def ReplyJoinsCardSaid : Prop := Claim7.holds Tryd.pinned (.plain (OpenSpec.ofChange replyJoinsSpec)) replyJoinsCard

/-- THE SECOND FORM's CARD OF 'marshalyardlaw04.ReplyWrites'. -/
def replyWritesUptoCard : Claim7 := { stood := { row := replyWritesUptoRow, standIns := [], harness := (true, "c6f514b14bd85c72b29abd1f4ab27ce21949b9b281f03ee24afcea4be3a8fb55"), looks := true }, kinds := [], alts := [], laidByText := true, laidKinds := [.data, .data, .data, .sentinel, .sentinel], laidTests := true, laidLooks := .later }
def ReplyWritesUptoCardSaid : Prop := Claim7.holds Tryd.pinned (.plain (OpenSpec.upto replyWritesSpec)) replyWritesUptoCard

/-- THE SECOND FORM's CARD OF 'marshalyardlaw04.ReplyLong'. -/
def replyLongUptoCard : Claim7 := { stood := { row := replyLongUptoRow, standIns := [], harness := (true, "c6f514b14bd85c72b29abd1f4ab27ce21949b9b281f03ee24afcea4be3a8fb55"), looks := true }, kinds := [], alts := [], laidByText := true, laidKinds := [.data, .data, .data, .sentinel, .sentinel], laidTests := true, laidLooks := .later }
def ReplyLongUptoCardSaid : Prop := Claim7.holds Tryd.pinned (.plain (OpenSpec.upto replyLongSpec)) replyLongUptoCard

/-- THE SECOND FORM's CARD OF 'marshalyardlaw04.ReplyBack'. -/
def replyBackUptoCard : Claim7 := { stood := { row := replyBackUptoRow, standIns := [], harness := (true, "c6f514b14bd85c72b29abd1f4ab27ce21949b9b281f03ee24afcea4be3a8fb55"), looks := true }, kinds := [], alts := [], laidByText := true, laidKinds := [.data, .data, .data, .sentinel, .sentinel], laidTests := true, laidLooks := .later }
def ReplyBackUptoCardSaid : Prop := Claim7.holds Tryd.pinned (.plain (OpenSpec.upto replyBackSpec)) replyBackUptoCard

/-- THE SECOND FORM's CARD OF 'marshalyardlaw04.ReplyCuts'. -/
def replyCutsUptoCard : Claim7 := { stood := { row := replyCutsUptoRow, standIns := [], harness := (true, "c6f514b14bd85c72b29abd1f4ab27ce21949b9b281f03ee24afcea4be3a8fb55"), looks := true }, kinds := [], alts := [], laidByText := true, laidKinds := [.data, .data, .data, .sentinel, .sentinel], laidTests := true, laidLooks := .later }
def ReplyCutsUptoCardSaid : Prop := Claim7.holds Tryd.pinned (.plain (OpenSpec.upto replyCutsSpec)) replyCutsUptoCard

/-- THE SECOND FORM's CARD OF 'marshalyardlaw04.ReplySame'. -/
def replySameUptoCard : Claim7 := { stood := { row := replySameUptoRow, standIns := [], harness := (true, "c6f514b14bd85c72b29abd1f4ab27ce21949b9b281f03ee24afcea4be3a8fb55"), looks := true }, kinds := [], alts := [], laidByText := true, laidKinds := [.data, .data, .data, .sentinel, .sentinel], laidTests := true, laidLooks := .later }
def ReplySameUptoCardSaid : Prop := Claim7.holds Tryd.pinned (.plain (OpenSpec.upto replySameSpec)) replySameUptoCard

/-- THE SECOND FORM's CARD OF 'marshalyardlaw04.ReplyMakes'. -/
def replyMakesUptoCard : Claim7 := { stood := { row := replyMakesUptoRow, standIns := [], harness := (true, "c6f514b14bd85c72b29abd1f4ab27ce21949b9b281f03ee24afcea4be3a8fb55"), looks := true }, kinds := [], alts := [], laidByText := true, laidKinds := [.data, .data, .data, .sentinel, .sentinel], laidTests := true, laidLooks := .later }
def ReplyMakesUptoCardSaid : Prop := Claim7.holds Tryd.pinned (.plain (OpenSpec.upto replyMakesSpec)) replyMakesUptoCard

/-- THE SECOND FORM's CARD OF 'marshalyardlaw04.ReplyJoins'. -/
def replyJoinsUptoCard : Claim7 := { stood := { row := replyJoinsUptoRow, standIns := [], harness := (true, "c6f514b14bd85c72b29abd1f4ab27ce21949b9b281f03ee24afcea4be3a8fb55"), looks := true }, kinds := [], alts := [], laidByText := true, laidKinds := [.data, .data, .data, .sentinel, .sentinel], laidTests := true, laidLooks := .later }
def ReplyJoinsUptoCardSaid : Prop := Claim7.holds Tryd.pinned (.plain (OpenSpec.upto replyJoinsSpec)) replyJoinsUptoCard
end Rows
end Go.Proofs.YteghfinngilfgaaDoor
