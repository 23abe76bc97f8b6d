/-
  No cell of these rows narrows 'for every input' (looked for: loops, veiled, ifaces, maps, wideKeys, modest, calm, conditions, laid).
  DERIVED. THE GIVEN ROWS OF THIS SEAT. 7 by the template 'for every input the law returns true; each argument reads behind the call as it read before'; 0 by the template 'total and deterministic' (their statements: YtojnhgeffnjndaaTotals.lean).
  GIVEN WITH THE SEED: the statements are not yours to turn. If you find one false, say at which input.
  Laid BY PROGRAM, IN A SANDBOX (cutbox-rows.mjs): the forced cells as the released guide's own fill.sh prints them over the translation 411759e181ebdb47… (all of the seat's roots in one cut). By AI agents, Wed Nov 11 2026. No macro, syntax, notation, axiom, sorry.
-/
import Derived.Test.YtojnhgeffnjndaaChecked
import GoSem.Claim
import GoSem.ClaimJoined
import GoSem.ClaimMapViews
import Derived.JoinedTies
import Derived.KernelRfl
namespace Go.Proofs.Ytojnhgeffnjndaa
/- THE CELL 'sum', in the pinned program and in every row, IS THE sha256 OF THE DUMP (.gsa) THAT YtojnhgeffnjndaaProg.lean LOADS. Nothing in Lean hashes anything: it is a label: what it is worth is what the hold of that sum in a sandbox is worth. -/
noncomputable def Try.pinned : Pinned := { name := "ytojnhgeffnjndaa", sum := "411759e181ebdb47146478da105adf33c4ccdb5281f4beeb7306e5733dfbe61d", checked := Try.checked }
namespace Rows
def none {H : Type} : Left H := { results := [], args := [] }

/-- 'marshalyardlaw08.SetsRight': WHATEVER THE INPUT: true; the input reads as it did. -/
def setsRightSpec : ChangeSpec := { name := "setsRight", fn := fun _ => fun
  | [d] => { results := [.lit (.bool true)], args := [d] }
  | _ => none }
def setsRightRow : OpenClaim := { program := "ytojnhgeffnjndaa", sum := "411759e181ebdb47146478da105adf33c4ccdb5281f4beeb7306e5733dfbe61d", func := "marshalyard/marshalyardlaw08.SetsRight", spec := "setsRight", unfollowed := true, recurses := true, apart := false }
def SetsRightSaid : Prop := setsRightRow.holds Try.pinned (OpenSpec.ofChange setsRightSpec)

/-- ITS FALSE NEIGHBOUR: 'it returns false'. Refute it at one input. -/
def setsRightWrong : ChangeSpec := { name := "setsRight", fn := fun _ => fun
  | [d] => { results := [.lit (.bool false)], args := [d] }
  | _ => none }
def SetsRightWrongFalsely : Prop := setsRightRow.holds Try.pinned (OpenSpec.ofChange setsRightWrong)

/-- 'marshalyardlaw08.SetsThree': WHATEVER THE INPUT: true; the input reads as it did. -/
def setsThreeSpec : ChangeSpec := { name := "setsThree", fn := fun _ => fun
  | [d1, d2, d3] => { results := [.lit (.bool true)], args := [d1, d2, d3] }
  | _ => none }
def setsThreeRow : OpenClaim := { program := "ytojnhgeffnjndaa", sum := "411759e181ebdb47146478da105adf33c4ccdb5281f4beeb7306e5733dfbe61d", func := "marshalyard/marshalyardlaw08.SetsThree", spec := "setsThree", unfollowed := true, recurses := true, apart := false }
def SetsThreeSaid : Prop := setsThreeRow.holds Try.pinned (OpenSpec.ofChange setsThreeSpec)

/-- ITS FALSE NEIGHBOUR: 'it returns false'. Refute it at one input. -/
def setsThreeWrong : ChangeSpec := { name := "setsThree", fn := fun _ => fun
  | [d1, d2, d3] => { results := [.lit (.bool false)], args := [d1, d2, d3] }
  | _ => none }
def SetsThreeWrongFalsely : Prop := setsThreeRow.holds Try.pinned (OpenSpec.ofChange setsThreeWrong)

/-- 'marshalyardlaw08.SetsTwo': WHATEVER THE INPUT: true; the input reads as it did. -/
def setsTwoSpec : ChangeSpec := { name := "setsTwo", fn := fun _ => fun
  | [d1, d2] => { results := [.lit (.bool true)], args := [d1, d2] }
  | _ => none }
def setsTwoRow : OpenClaim := { program := "ytojnhgeffnjndaa", sum := "411759e181ebdb47146478da105adf33c4ccdb5281f4beeb7306e5733dfbe61d", func := "marshalyard/marshalyardlaw08.SetsTwo", spec := "setsTwo", unfollowed := true, recurses := true, apart := false }
def SetsTwoSaid : Prop := setsTwoRow.holds Try.pinned (OpenSpec.ofChange setsTwoSpec)

/-- ITS FALSE NEIGHBOUR: 'it returns false'. Refute it at one input. -/
def setsTwoWrong : ChangeSpec := { name := "setsTwo", fn := fun _ => fun
  | [d1, d2] => { results := [.lit (.bool false)], args := [d1, d2] }
  | _ => none }
def SetsTwoWrongFalsely : Prop := setsTwoRow.holds Try.pinned (OpenSpec.ofChange setsTwoWrong)

/-- 'marshalyardlaw08.SetsLaws': WHATEVER THE INPUT: true; the input reads as it did. -/
def setsLawsSpec : ChangeSpec := { name := "setsLaws", fn := fun _ => fun
  | [d1, d2] => { results := [.lit (.bool true)], args := [d1, d2] }
  | _ => none }
def setsLawsRow : OpenClaim := { program := "ytojnhgeffnjndaa", sum := "411759e181ebdb47146478da105adf33c4ccdb5281f4beeb7306e5733dfbe61d", func := "marshalyard/marshalyardlaw08.SetsLaws", spec := "setsLaws", unfollowed := true, recurses := true, apart := false }
def SetsLawsSaid : Prop := setsLawsRow.holds Try.pinned (OpenSpec.ofChange setsLawsSpec)

/-- ITS FALSE NEIGHBOUR: 'it returns false'. Refute it at one input. -/
def setsLawsWrong : ChangeSpec := { name := "setsLaws", fn := fun _ => fun
  | [d1, d2] => { results := [.lit (.bool false)], args := [d1, d2] }
  | _ => none }
def SetsLawsWrongFalsely : Prop := setsLawsRow.holds Try.pinned (OpenSpec.ofChange setsLawsWrong)

/-- 'marshalyardlaw08.SetsOne': WHATEVER THE INPUT: true; the input reads as it did. -/
def setsOneSpec : ChangeSpec := { name := "setsOne", fn := fun _ => fun
  | [d1, d2] => { results := [.lit (.bool true)], args := [d1, d2] }
  | _ => none }
def setsOneRow : OpenClaim := { program := "ytojnhgeffnjndaa", sum := "411759e181ebdb47146478da105adf33c4ccdb5281f4beeb7306e5733dfbe61d", func := "marshalyard/marshalyardlaw08.SetsOne", spec := "setsOne", inPlace := ["slices.overlaps[string]"], unfollowed := true, recurses := true, apart := false }
def SetsOneSaid : Prop := setsOneRow.holds Try.pinned (OpenSpec.ofChange setsOneSpec)

/-- ITS FALSE NEIGHBOUR: 'it returns false'. Refute it at one input. -/
def setsOneWrong : ChangeSpec := { name := "setsOne", fn := fun _ => fun
  | [d1, d2] => { results := [.lit (.bool false)], args := [d1, d2] }
  | _ => none }
def SetsOneWrongFalsely : Prop := setsOneRow.holds Try.pinned (OpenSpec.ofChange setsOneWrong)

/-- 'marshalyardlaw08.SetsKeep': WHATEVER THE INPUT: true; the input reads as it did. -/
def setsKeepSpec : ChangeSpec := { name := "setsKeep", fn := fun _ => fun
  | [d1, d2, d3] => { results := [.lit (.bool true)], args := [d1, d2, d3] }
  | _ => none }
def setsKeepRow : OpenClaim := { program := "ytojnhgeffnjndaa", sum := "411759e181ebdb47146478da105adf33c4ccdb5281f4beeb7306e5733dfbe61d", func := "marshalyard/marshalyardlaw08.SetsKeep", spec := "setsKeep", inPlace := ["slices.overlaps[string]"], unfollowed := true, recurses := true, apart := false }
def SetsKeepSaid : Prop := setsKeepRow.holds Try.pinned (OpenSpec.ofChange setsKeepSpec)

/-- ITS FALSE NEIGHBOUR: 'it returns false'. Refute it at one input. -/
def setsKeepWrong : ChangeSpec := { name := "setsKeep", fn := fun _ => fun
  | [d1, d2, d3] => { results := [.lit (.bool false)], args := [d1, d2, d3] }
  | _ => none }
def SetsKeepWrongFalsely : Prop := setsKeepRow.holds Try.pinned (OpenSpec.ofChange setsKeepWrong)

/-- 'marshalyardlaw08.SetsAny': WHATEVER THE INPUT: true; the input reads as it did. -/
def setsAnySpec : ChangeSpec := { name := "setsAny", fn := fun _ => fun
  | [d1, d2, d3] => { results := [.lit (.bool true)], args := [d1, d2, d3] }
  | _ => none }
def setsAnyRow : OpenClaim := { program := "ytojnhgeffnjndaa", sum := "411759e181ebdb47146478da105adf33c4ccdb5281f4beeb7306e5733dfbe61d", func := "marshalyard/marshalyardlaw08.SetsAny", spec := "setsAny", inPlace := ["slices.overlaps[string]"], unfollowed := true, recurses := true, apart := false }
def SetsAnySaid : Prop := setsAnyRow.holds Try.pinned (OpenSpec.ofChange setsAnySpec)

/-- ITS FALSE NEIGHBOUR: 'it returns false'. Refute it at one input. -/
def setsAnyWrong : ChangeSpec := { name := "setsAny", fn := fun _ => fun
  | [d1, d2, d3] => { results := [.lit (.bool false)], args := [d1, d2, d3] }
  | _ => none }
def SetsAnyWrongFalsely : Prop := setsAnyRow.holds Try.pinned (OpenSpec.ofChange setsAnyWrong)

/- THE SECOND FORM. 'bulk': how many values and letters a reading holds, each counted each time it is reached (what is shared counts as often as it is met; a slice's spare places count too). A statement '..UptoSaid' is the law's where the arguments, and the package variables that the reading takes, are together of bulk at most 1048576: NARROWER than '..Said'. Prove '..Said' where nothing that the law and all that it calls make is longer than what came in: it says more and counts as full. Else prove '..UptoSaid'. A law counts once. -/
mutual
def uptoBulk {H : Type} : DataW H → Nat
  | .lit (.string bytes) => bytes.length + 1
  | .lit _ => 1
  | .nil => 1
  | .ptr d => uptoBulk d + 1
  | .slice elems spare => uptoBulkAll elems + uptoBulkAll spare + 1
  | .agg parts => uptoBulkAll parts + 1
  | .iface _ d => uptoBulk d + 1
  | .map entries => uptoBulkEntries entries + 1
  | .held _ => 1
def uptoBulkAll {H : Type} : List (DataW H) → Nat
  | [] => 0
  | d :: r => uptoBulk d + uptoBulkAll r
def uptoBulkEntries {H : Type} : List (Lit × DataW H) → Nat
  | [] => 0
  | x :: r => uptoBulkEntry x + uptoBulkEntries r
def uptoBulkEntry {H : Type} : Lit × DataW H → Nat
  | (.string bytes, d) => bytes.length + uptoBulk d + 1
  | (_, d) => uptoBulk d + 1
 end
def uptoSmall : (H : Type) → List (DataW H) → Bool := fun _ ds => decide (uptoBulkAll ds ≤ 1048576)
def OpenSpec.upto (s : _root_.Go.ChangeSpec) : _root_.Go.OpenSpec := { _root_.Go.OpenSpec.ofChange s with cond := some uptoSmall }

/-- 'marshalyardlaw08.SetsRight', WHERE WHAT IT READS IS OF BULK AT MOST 1048576: true; the input reads as it did. -/
def setsRightUptoRow : OpenClaim := { program := "ytojnhgeffnjndaa", sum := "411759e181ebdb47146478da105adf33c4ccdb5281f4beeb7306e5733dfbe61d", func := "marshalyard/marshalyardlaw08.SetsRight", spec := "setsRight", unfollowed := true, recurses := true, apart := false, narrowed := true }
def SetsRightUptoSaid : Prop := setsRightUptoRow.holds Try.pinned (OpenSpec.upto setsRightSpec)

/-- 'marshalyardlaw08.SetsThree', WHERE WHAT IT READS IS OF BULK AT MOST 1048576: true; the input reads as it did. -/
def setsThreeUptoRow : OpenClaim := { program := "ytojnhgeffnjndaa", sum := "411759e181ebdb47146478da105adf33c4ccdb5281f4beeb7306e5733dfbe61d", func := "marshalyard/marshalyardlaw08.SetsThree", spec := "setsThree", unfollowed := true, recurses := true, apart := false, narrowed := true }
def SetsThreeUptoSaid : Prop := setsThreeUptoRow.holds Try.pinned (OpenSpec.upto setsThreeSpec)

/-- 'marshalyardlaw08.SetsTwo', WHERE WHAT IT READS IS OF BULK AT MOST 1048576: true; the input reads as it did. -/
def setsTwoUptoRow : OpenClaim := { program := "ytojnhgeffnjndaa", sum := "411759e181ebdb47146478da105adf33c4ccdb5281f4beeb7306e5733dfbe61d", func := "marshalyard/marshalyardlaw08.SetsTwo", spec := "setsTwo", unfollowed := true, recurses := true, apart := false, narrowed := true }
def SetsTwoUptoSaid : Prop := setsTwoUptoRow.holds Try.pinned (OpenSpec.upto setsTwoSpec)

/-- 'marshalyardlaw08.SetsLaws', WHERE WHAT IT READS IS OF BULK AT MOST 1048576: true; the input reads as it did. -/
def setsLawsUptoRow : OpenClaim := { program := "ytojnhgeffnjndaa", sum := "411759e181ebdb47146478da105adf33c4ccdb5281f4beeb7306e5733dfbe61d", func := "marshalyard/marshalyardlaw08.SetsLaws", spec := "setsLaws", unfollowed := true, recurses := true, apart := false, narrowed := true }
def SetsLawsUptoSaid : Prop := setsLawsUptoRow.holds Try.pinned (OpenSpec.upto setsLawsSpec)

/-- 'marshalyardlaw08.SetsOne', WHERE WHAT IT READS IS OF BULK AT MOST 1048576: true; the input reads as it did. -/
def setsOneUptoRow : OpenClaim := { program := "ytojnhgeffnjndaa", sum := "411759e181ebdb47146478da105adf33c4ccdb5281f4beeb7306e5733dfbe61d", func := "marshalyard/marshalyardlaw08.SetsOne", spec := "setsOne", inPlace := ["slices.overlaps[string]"], unfollowed := true, recurses := true, apart := false, narrowed := true }
def SetsOneUptoSaid : Prop := setsOneUptoRow.holds Try.pinned (OpenSpec.upto setsOneSpec)

/-- 'marshalyardlaw08.SetsKeep', WHERE WHAT IT READS IS OF BULK AT MOST 1048576: true; the input reads as it did. -/
def setsKeepUptoRow : OpenClaim := { program := "ytojnhgeffnjndaa", sum := "411759e181ebdb47146478da105adf33c4ccdb5281f4beeb7306e5733dfbe61d", func := "marshalyard/marshalyardlaw08.SetsKeep", spec := "setsKeep", inPlace := ["slices.overlaps[string]"], unfollowed := true, recurses := true, apart := false, narrowed := true }
def SetsKeepUptoSaid : Prop := setsKeepUptoRow.holds Try.pinned (OpenSpec.upto setsKeepSpec)

/-- 'marshalyardlaw08.SetsAny', WHERE WHAT IT READS IS OF BULK AT MOST 1048576: true; the input reads as it did. -/
def setsAnyUptoRow : OpenClaim := { program := "ytojnhgeffnjndaa", sum := "411759e181ebdb47146478da105adf33c4ccdb5281f4beeb7306e5733dfbe61d", func := "marshalyard/marshalyardlaw08.SetsAny", spec := "setsAny", inPlace := ["slices.overlaps[string]"], unfollowed := true, recurses := true, apart := false, narrowed := true }
def SetsAnyUptoSaid : Prop := setsAnyUptoRow.holds Try.pinned (OpenSpec.upto setsAnySpec)

end Rows
end Go.Proofs.Ytojnhgeffnjndaa
