/-
  NARROWER THAN 'FOR EVERY INPUT', by the rows' own cells (each row's printed sentence says how): DictGeneric: laid · DictMany: laid · DictOrder: laid · DictAll: laid · DictSteps: laid · DictApart: laid.
  DERIVED. THE GIVEN ROWS OF THIS SEAT. 6 by the template 'for every input the law returns true; each argument reads behind the call as it read before'; 0 by the template 'total and deterministic' (their statements: YtfdcacjfngjmdaaDoorTotals.lean).
  GIVEN WITH THE SEED: the statements are not yours to turn. If you find one false, say at which input.
  Laid BY PROGRAM, IN A SANDBOX (cutbox-rows.mjs): the forced cells as the released guide's own fill.sh prints them over the translation 37e67e9e33dc310b… (all of the seat's roots in one cut). By AI agents, Wed Nov 11 2026. No macro, syntax, notation, axiom, sorry.
-/
import Derived.Test.YtfdcacjfngjmdaaDoorChecked
import GoSem.Claim
import GoSem.ClaimJoined
import GoSem.ClaimMapViews
import Derived.JoinedTies
import Derived.KernelRfl
namespace Go.Proofs.YtfdcacjfngjmdaaDoor
/- THE CELL 'sum', in the pinned program and in every row, IS THE sha256 OF THE DUMP (.gsa) THAT YtfdcacjfngjmdaaDoorProg.lean LOADS. Nothing in Lean hashes anything: it is a label: what it is worth is what the hold of that sum in a sandbox is worth. -/
noncomputable def Tryd.pinned : Pinned := { name := "ytfdcacjfngjmdaadoor", sum := "37e67e9e33dc310baaf3c43a239b505033c79ce8f70b32eba01bd59b2cf7c11e", checked := Tryd.checked }
namespace Rows
def none {H : Type} : Left H := { results := [], args := [] }

/- WHAT THE LISTED PACKAGE-LEVEL VARIABLES READ AS WHEN THE CALL BEGINS. Each datum BY PROGRAM (the guide's laid-datum.mjs) off the statement by which the dump's own 'gosem.cut.vars' lays the variable. In a bare row this is a premise. The card (YtfdcacjfngjmdaaDoorCards.lean) ties it to the program's text. -/
def laid_marshalyard_crc_halves {H : Type} : DataW H := .agg [.lit (.int .u16 0), .lit (.int .u16 4129), .lit (.int .u16 8258), .lit (.int .u16 12387), .lit (.int .u16 16516), .lit (.int .u16 20645), .lit (.int .u16 24774), .lit (.int .u16 28903), .lit (.int .u16 33032), .lit (.int .u16 37161), .lit (.int .u16 41290), .lit (.int .u16 45419), .lit (.int .u16 49548), .lit (.int .u16 53677), .lit (.int .u16 57806), .lit (.int .u16 61935)]

/-- 'marshalyardlaw07.DictGeneric': WHATEVER THE INPUT: true; the input reads as it did. -/
def dictGenericSpec : ChangeSpec := { name := "dictGeneric", fn := fun _ => fun
  | [d] => { results := [.lit (.bool true)], args := [d] }
  | _ => none }
def dictGenericRow : OpenClaim := { program := "ytfdcacjfngjmdaadoor", sum := "37e67e9e33dc310baaf3c43a239b505033c79ce8f70b32eba01bd59b2cf7c11e", func := "marshalyard/marshalyardlaw07.DictGeneric", spec := "dictGeneric", unfollowed := true, recurses := true, named := ["marshalyard/crc.halves"], apart := false, laid := [("marshalyard/crc.halves", laid_marshalyard_crc_halves)] }
def DictGenericSaid : Prop := dictGenericRow.holds Tryd.pinned (OpenSpec.ofChange dictGenericSpec)

/-- ITS FALSE NEIGHBOUR: 'it returns false'. Refute it at one input. -/
def dictGenericWrong : ChangeSpec := { name := "dictGeneric", fn := fun _ => fun
  | [d] => { results := [.lit (.bool false)], args := [d] }
  | _ => none }
def DictGenericWrongFalsely : Prop := dictGenericRow.holds Tryd.pinned (OpenSpec.ofChange dictGenericWrong)

/-- 'marshalyardlaw07.DictMany': WHATEVER THE INPUT: true; the input reads as it did. -/
def dictManySpec : ChangeSpec := { name := "dictMany", fn := fun _ => fun
  | [d] => { results := [.lit (.bool true)], args := [d] }
  | _ => none }
def dictManyRow : OpenClaim := { program := "ytfdcacjfngjmdaadoor", sum := "37e67e9e33dc310baaf3c43a239b505033c79ce8f70b32eba01bd59b2cf7c11e", func := "marshalyard/marshalyardlaw07.DictMany", spec := "dictMany", unfollowed := true, recurses := true, named := ["marshalyard/crc.halves"], apart := false, laid := [("marshalyard/crc.halves", laid_marshalyard_crc_halves)] }
def DictManySaid : Prop := dictManyRow.holds Tryd.pinned (OpenSpec.ofChange dictManySpec)

/-- ITS FALSE NEIGHBOUR: 'it returns false'. Refute it at one input. -/
def dictManyWrong : ChangeSpec := { name := "dictMany", fn := fun _ => fun
  | [d] => { results := [.lit (.bool false)], args := [d] }
  | _ => none }
def DictManyWrongFalsely : Prop := dictManyRow.holds Tryd.pinned (OpenSpec.ofChange dictManyWrong)

/-- 'marshalyardlaw07.DictOrder': WHATEVER THE INPUT: true; the input reads as it did. -/
def dictOrderSpec : ChangeSpec := { name := "dictOrder", fn := fun _ => fun
  | [d1, d2] => { results := [.lit (.bool true)], args := [d1, d2] }
  | _ => none }
def dictOrderRow : OpenClaim := { program := "ytfdcacjfngjmdaadoor", sum := "37e67e9e33dc310baaf3c43a239b505033c79ce8f70b32eba01bd59b2cf7c11e", func := "marshalyard/marshalyardlaw07.DictOrder", spec := "dictOrder", unfollowed := true, recurses := true, named := ["marshalyard/crc.halves"], apart := false, laid := [("marshalyard/crc.halves", laid_marshalyard_crc_halves)] }
def DictOrderSaid : Prop := dictOrderRow.holds Tryd.pinned (OpenSpec.ofChange dictOrderSpec)

/-- ITS FALSE NEIGHBOUR: 'it returns false'. Refute it at one input. -/
def dictOrderWrong : ChangeSpec := { name := "dictOrder", fn := fun _ => fun
  | [d1, d2] => { results := [.lit (.bool false)], args := [d1, d2] }
  | _ => none }
def DictOrderWrongFalsely : Prop := dictOrderRow.holds Tryd.pinned (OpenSpec.ofChange dictOrderWrong)

/-- 'marshalyardlaw07.DictAll': WHATEVER THE INPUT: true; the input reads as it did. -/
def dictAllSpec : ChangeSpec := { name := "dictAll", fn := fun _ => fun
  | [d] => { results := [.lit (.bool true)], args := [d] }
  | _ => none }
def dictAllRow : OpenClaim := { program := "ytfdcacjfngjmdaadoor", sum := "37e67e9e33dc310baaf3c43a239b505033c79ce8f70b32eba01bd59b2cf7c11e", func := "marshalyard/marshalyardlaw07.DictAll", spec := "dictAll", unfollowed := true, recurses := true, named := ["marshalyard/crc.halves"], apart := false, laid := [("marshalyard/crc.halves", laid_marshalyard_crc_halves)] }
def DictAllSaid : Prop := dictAllRow.holds Tryd.pinned (OpenSpec.ofChange dictAllSpec)

/-- ITS FALSE NEIGHBOUR: 'it returns false'. Refute it at one input. -/
def dictAllWrong : ChangeSpec := { name := "dictAll", fn := fun _ => fun
  | [d] => { results := [.lit (.bool false)], args := [d] }
  | _ => none }
def DictAllWrongFalsely : Prop := dictAllRow.holds Tryd.pinned (OpenSpec.ofChange dictAllWrong)

/-- 'marshalyardlaw07.DictSteps': WHATEVER THE INPUT: true; the input reads as it did. -/
def dictStepsSpec : ChangeSpec := { name := "dictSteps", fn := fun _ => fun
  | [d1, d2] => { results := [.lit (.bool true)], args := [d1, d2] }
  | _ => none }
def dictStepsRow : OpenClaim := { program := "ytfdcacjfngjmdaadoor", sum := "37e67e9e33dc310baaf3c43a239b505033c79ce8f70b32eba01bd59b2cf7c11e", func := "marshalyard/marshalyardlaw07.DictSteps", spec := "dictSteps", unfollowed := true, recurses := true, named := ["marshalyard/crc.halves"], apart := false, laid := [("marshalyard/crc.halves", laid_marshalyard_crc_halves)] }
def DictStepsSaid : Prop := dictStepsRow.holds Tryd.pinned (OpenSpec.ofChange dictStepsSpec)

/-- ITS FALSE NEIGHBOUR: 'it returns false'. Refute it at one input. -/
def dictStepsWrong : ChangeSpec := { name := "dictSteps", fn := fun _ => fun
  | [d1, d2] => { results := [.lit (.bool false)], args := [d1, d2] }
  | _ => none }
def DictStepsWrongFalsely : Prop := dictStepsRow.holds Tryd.pinned (OpenSpec.ofChange dictStepsWrong)

/-- 'marshalyardlaw07.DictApart': WHATEVER THE INPUT: true; the input reads as it did. -/
def dictApartSpec : ChangeSpec := { name := "dictApart", fn := fun _ => fun
  | [d1, d2] => { results := [.lit (.bool true)], args := [d1, d2] }
  | _ => none }
def dictApartRow : OpenClaim := { program := "ytfdcacjfngjmdaadoor", sum := "37e67e9e33dc310baaf3c43a239b505033c79ce8f70b32eba01bd59b2cf7c11e", func := "marshalyard/marshalyardlaw07.DictApart", spec := "dictApart", unfollowed := true, recurses := true, named := ["marshalyard/crc.halves"], apart := false, laid := [("marshalyard/crc.halves", laid_marshalyard_crc_halves)] }
def DictApartSaid : Prop := dictApartRow.holds Tryd.pinned (OpenSpec.ofChange dictApartSpec)

/-- ITS FALSE NEIGHBOUR: 'it returns false'. Refute it at one input. -/
def dictApartWrong : ChangeSpec := { name := "dictApart", fn := fun _ => fun
  | [d1, d2] => { results := [.lit (.bool false)], args := [d1, d2] }
  | _ => none }
def DictApartWrongFalsely : Prop := dictApartRow.holds Tryd.pinned (OpenSpec.ofChange dictApartWrong)

/- THE SECOND FORM. 'bulk': how many values and letters a reading holds, each counted each time it is reached (what is shared counts as often as it is met; a slice's spare places count too). A statement '..UptoSaid' is the law's where the arguments, and the package variables that the reading takes, are together of bulk at most 1048576: NARROWER than '..Said'. Prove '..Said' where nothing that the law and all that it calls make is longer than what came in: it says more and counts as full. Else prove '..UptoSaid'. A law counts once. -/
mutual
def uptoBulk {H : Type} : DataW H → Nat
  | .lit (.string bytes) => bytes.length + 1
  | .lit _ => 1
  | .nil => 1
  | .ptr d => uptoBulk d + 1
  | .slice elems spare => uptoBulkAll elems + uptoBulkAll spare + 1
  | .agg parts => uptoBulkAll parts + 1
  | .iface _ d => uptoBulk d + 1
  | .map entries => uptoBulkEntries entries + 1
  | .held _ => 1
def uptoBulkAll {H : Type} : List (DataW H) → Nat
  | [] => 0
  | d :: r => uptoBulk d + uptoBulkAll r
def uptoBulkEntries {H : Type} : List (Lit × DataW H) → Nat
  | [] => 0
  | x :: r => uptoBulkEntry x + uptoBulkEntries r
def uptoBulkEntry {H : Type} : Lit × DataW H → Nat
  | (.string bytes, d) => bytes.length + uptoBulk d + 1
  | (_, d) => uptoBulk d + 1
 end
def uptoSmall : (H : Type) → List (DataW H) → Bool := fun _ ds => decide (uptoBulkAll ds ≤ 1048576)
def OpenSpec.upto (s : _root_.Go.ChangeSpec) : _root_.Go.OpenSpec := { _root_.Go.OpenSpec.ofChange s with cond := some uptoSmall }

/-- 'marshalyardlaw07.DictGeneric', WHERE WHAT IT READS IS OF BULK AT MOST 1048576: true; the input reads as it did. -/
def dictGenericUptoRow : OpenClaim := { program := "ytfdcacjfngjmdaadoor", sum := "37e67e9e33dc310baaf3c43a239b505033c79ce8f70b32eba01bd59b2cf7c11e", func := "marshalyard/marshalyardlaw07.DictGeneric", spec := "dictGeneric", unfollowed := true, recurses := true, named := ["marshalyard/crc.halves"], apart := false, laid := [("marshalyard/crc.halves", laid_marshalyard_crc_halves)], narrowed := true }
def DictGenericUptoSaid : Prop := dictGenericUptoRow.holds Tryd.pinned (OpenSpec.upto dictGenericSpec)

/-- 'marshalyardlaw07.DictMany', WHERE WHAT IT READS IS OF BULK AT MOST 1048576: true; the input reads as it did. -/
def dictManyUptoRow : OpenClaim := { program := "ytfdcacjfngjmdaadoor", sum := "37e67e9e33dc310baaf3c43a239b505033c79ce8f70b32eba01bd59b2cf7c11e", func := "marshalyard/marshalyardlaw07.DictMany", spec := "dictMany", unfollowed := true, recurses := true, named := ["marshalyard/crc.halves"], apart := false, laid := [("marshalyard/crc.halves", laid_marshalyard_crc_halves)], narrowed := true }
def DictManyUptoSaid : Prop := dictManyUptoRow.holds Tryd.pinned (OpenSpec.upto dictManySpec)

/-- 'marshalyardlaw07.DictOrder', WHERE WHAT IT READS IS OF BULK AT MOST 1048576: true; the input reads as it did. -/
def dictOrderUptoRow : OpenClaim := { program := "ytfdcacjfngjmdaadoor", sum := "37e67e9e33dc310baaf3c43a239b505033c79ce8f70b32eba01bd59b2cf7c11e", func := "marshalyard/marshalyardlaw07.DictOrder", spec := "dictOrder", unfollowed := true, recurses := true, named := ["marshalyard/crc.halves"], apart := false, laid := [("marshalyard/crc.halves", laid_marshalyard_crc_halves)], narrowed := true }
def DictOrderUptoSaid : Prop := dictOrderUptoRow.holds Tryd.pinned (OpenSpec.upto dictOrderSpec)

/-- 'marshalyardlaw07.DictAll', WHERE WHAT IT READS IS OF BULK AT MOST 1048576: true; the input reads as it did. -/
def dictAllUptoRow : OpenClaim := { program := "ytfdcacjfngjmdaadoor", sum := "37e67e9e33dc310baaf3c43a239b505033c79ce8f70b32eba01bd59b2cf7c11e", func := "marshalyard/marshalyardlaw07.DictAll", spec := "dictAll", unfollowed := true, recurses := true, named := ["marshalyard/crc.halves"], apart := false, laid := [("marshalyard/crc.halves", laid_marshalyard_crc_halves)], narrowed := true }
def DictAllUptoSaid : Prop := dictAllUptoRow.holds Tryd.pinned (OpenSpec.upto dictAllSpec)

/-- 'marshalyardlaw07.DictSteps', WHERE WHAT IT READS IS OF BULK AT MOST 1048576: true; the input reads as it did. -/
def dictStepsUptoRow : OpenClaim := { program := "ytfdcacjfngjmdaadoor", sum := "37e67e9e33dc310baaf3c43a239b505033c79ce8f70b32eba01bd59b2cf7c11e", func := "marshalyard/marshalyardlaw07.DictSteps", spec := "dictSteps", unfollowed := true, recurses := true, named := ["marshalyard/crc.halves"], apart := false, laid := [("marshalyard/crc.halves", laid_marshalyard_crc_halves)], narrowed := true }
def DictStepsUptoSaid : Prop := dictStepsUptoRow.holds Tryd.pinned (OpenSpec.upto dictStepsSpec)

/-- 'marshalyardlaw07.DictApart', WHERE WHAT IT READS IS OF BULK AT MOST 1048576: true; the input reads as it did. -/
def dictApartUptoRow : OpenClaim := { program := "ytfdcacjfngjmdaadoor", sum := "37e67e9e33dc310baaf3c43a239b505033c79ce8f70b32eba01bd59b2cf7c11e", func := "marshalyard/marshalyardlaw07.DictApart", spec := "dictApart", unfollowed := true, recurses := true, named := ["marshalyard/crc.halves"], apart := false, laid := [("marshalyard/crc.halves", laid_marshalyard_crc_halves)], narrowed := true }
def DictApartUptoSaid : Prop := dictApartUptoRow.holds Tryd.pinned (OpenSpec.upto dictApartSpec)

end Rows
end Go.Proofs.YtfdcacjfngjmdaaDoor
