/-
  DERIVED. GIVEN WITH THE SEED: THE CARDS: each row of YtfdcacjfngjmdaaDoorRows.lean that lists a variable, with what it lists TIED to the program's text (the seventh form; the later family's looks); each row that meets fmt, with fmt's text TOLD by the authors' own Lean function (tested against real Go, not proved from fmt's source: count such statements apart). THE CARD IS WHAT COUNTS. Prove the row's statement (the work); the ties are given (YtfdcacjfngjmdaaDoorTie.lean); close each card by the builder's one call (the guide's Derived/Test/ToyasCard.lean, 'card_holds'). Laid BY PROGRAM, IN A SANDBOX (cutbox-door.mjs). By AI agents, Wed Nov 11 2026. No macro, syntax, notation, axiom, sorry.
-/
import Derived.Test.YtfdcacjfngjmdaaDoorRows
import GoSem.ClaimSeven
namespace Go.Proofs.YtfdcacjfngjmdaaDoor
namespace Rows

/-- THE TIED CARD OF 'marshalyardlaw07.DictGeneric'. -/
def dictGenericCard : Claim7 := { stood := { row := dictGenericRow, standIns := [], harness := (true, "f9ab19fe2bf9924d4532225c09a7ef96f43da982023583ab8577b1354adc66e0"), looks := false }, kinds := [], alts := [], laidByText := true, laidKinds := [.data], laidTests := true, laidLooks := .later }
def DictGenericCardSaid : Prop := Claim7.holds Tryd.pinned (.plain (OpenSpec.ofChange dictGenericSpec)) dictGenericCard

/-- THE TIED CARD OF 'marshalyardlaw07.DictMany'. -/
def dictManyCard : Claim7 := { stood := { row := dictManyRow, standIns := [], harness := (true, "f9ab19fe2bf9924d4532225c09a7ef96f43da982023583ab8577b1354adc66e0"), looks := false }, kinds := [], alts := [], laidByText := true, laidKinds := [.data], laidTests := true, laidLooks := .later }
def DictManyCardSaid : Prop := Claim7.holds Tryd.pinned (.plain (OpenSpec.ofChange dictManySpec)) dictManyCard

/-- THE TIED CARD OF 'marshalyardlaw07.DictOrder'. -/
def dictOrderCard : Claim7 := { stood := { row := dictOrderRow, standIns := [], harness := (true, "f9ab19fe2bf9924d4532225c09a7ef96f43da982023583ab8577b1354adc66e0"), looks := false }, kinds := [], alts := [], laidByText := true, laidKinds := [.data], laidTests := true, laidLooks := .later }
def DictOrderCardSaid : Prop := Claim7.holds Tryd.pinned (.plain (OpenSpec.ofChange dictOrderSpec)) dictOrderCard

/-- THE TIED CARD OF 'marshalyardlaw07.DictAll'. -/
def dictAllCard : Claim7 := { stood := { row := dictAllRow, standIns := [], harness := (true, "f9ab19fe2bf9924d4532225c09a7ef96f43da982023583ab8577b1354adc66e0"), looks := false }, kinds := [], alts := [], laidByText := true, laidKinds := [.data], laidTests := true, laidLooks := .later }
def DictAllCardSaid : Prop := Claim7.holds Tryd.pinned (.plain (OpenSpec.ofChange dictAllSpec)) dictAllCard

/-- THE TIED CARD OF 'marshalyardlaw07.DictSteps'. -/
def dictStepsCard : Claim7 := { stood := { row := dictStepsRow, standIns := [], harness := (true, "f9ab19fe2bf9924d4532225c09a7ef96f43da982023583ab8577b1354adc66e0"), looks := false }, kinds := [], alts := [], laidByText := true, laidKinds := [.data], laidTests := true, laidLooks := .later }
def DictStepsCardSaid : Prop := Claim7.holds Tryd.pinned (.plain (OpenSpec.ofChange dictStepsSpec)) dictStepsCard

/-- THE TIED CARD OF 'marshalyardlaw07.DictApart'. -/
def dictApartCard : Claim7 := { stood := { row := dictApartRow, standIns := [], harness := (true, "f9ab19fe2bf9924d4532225c09a7ef96f43da982023583ab8577b1354adc66e0"), looks := false }, kinds := [], alts := [], laidByText := true, laidKinds := [.data], laidTests := true, laidLooks := .later }
def DictApartCardSaid : Prop := Claim7.holds Tryd.pinned (.plain (OpenSpec.ofChange dictApartSpec)) dictApartCard

/-- THE SECOND FORM's CARD OF 'marshalyardlaw07.DictGeneric'. -/
def dictGenericUptoCard : Claim7 := { stood := { row := dictGenericUptoRow, standIns := [], harness := (true, "f9ab19fe2bf9924d4532225c09a7ef96f43da982023583ab8577b1354adc66e0"), looks := false }, kinds := [], alts := [], laidByText := true, laidKinds := [.data], laidTests := true, laidLooks := .later }
def DictGenericUptoCardSaid : Prop := Claim7.holds Tryd.pinned (.plain (OpenSpec.upto dictGenericSpec)) dictGenericUptoCard

/-- THE SECOND FORM's CARD OF 'marshalyardlaw07.DictMany'. -/
def dictManyUptoCard : Claim7 := { stood := { row := dictManyUptoRow, standIns := [], harness := (true, "f9ab19fe2bf9924d4532225c09a7ef96f43da982023583ab8577b1354adc66e0"), looks := false }, kinds := [], alts := [], laidByText := true, laidKinds := [.data], laidTests := true, laidLooks := .later }
def DictManyUptoCardSaid : Prop := Claim7.holds Tryd.pinned (.plain (OpenSpec.upto dictManySpec)) dictManyUptoCard

/-- THE SECOND FORM's CARD OF 'marshalyardlaw07.DictOrder'. -/
def dictOrderUptoCard : Claim7 := { stood := { row := dictOrderUptoRow, standIns := [], harness := (true, "f9ab19fe2bf9924d4532225c09a7ef96f43da982023583ab8577b1354adc66e0"), looks := false }, kinds := [], alts := [], laidByText := true, laidKinds := [.data], laidTests := true, laidLooks := .later }
def DictOrderUptoCardSaid : Prop := Claim7.holds Tryd.pinned (.plain (OpenSpec.upto dictOrderSpec)) dictOrderUptoCard

/-- THE SECOND FORM's CARD OF 'marshalyardlaw07.DictAll'. -/
def dictAllUptoCard : Claim7 := { stood := { row := dictAllUptoRow, standIns := [], harness := (true, "f9ab19fe2bf9924d4532225c09a7ef96f43da982023583ab8577b1354adc66e0"), looks := false }, kinds := [], alts := [], laidByText := true, laidKinds := [.data], laidTests := true, laidLooks := .later }
def DictAllUptoCardSaid : Prop := Claim7.holds Tryd.pinned (.plain (OpenSpec.upto dictAllSpec)) dictAllUptoCard

/-- THE SECOND FORM's CARD OF 'marshalyardlaw07.DictSteps'. -/
def dictStepsUptoCard : Claim7 := { stood := { row := dictStepsUptoRow, standIns := [], harness := (true, "f9ab19fe2bf9924d4532225c09a7ef96f43da982023583ab8577b1354adc66e0"), looks := false }, kinds := [], alts := [], laidByText := true, laidKinds := [.data], laidTests := true, laidLooks := .later }
def DictStepsUptoCardSaid : Prop := Claim7.holds Tryd.pinned (.plain (OpenSpec.upto dictStepsSpec)) dictStepsUptoCard

/-- THE SECOND FORM's CARD OF 'marshalyardlaw07.DictApart'. -/
def dictApartUptoCard : Claim7 := { stood := { row := dictApartUptoRow, standIns := [], harness := (true, "f9ab19fe2bf9924d4532225c09a7ef96f43da982023583ab8577b1354adc66e0"), looks := false }, kinds := [], alts := [], laidByText := true, laidKinds := [.data], laidTests := true, laidLooks := .later }
def DictApartUptoCardSaid : Prop := Claim7.holds Tryd.pinned (.plain (OpenSpec.upto dictApartSpec)) dictApartUptoCard
end Rows
end Go.Proofs.YtfdcacjfngjmdaaDoor
