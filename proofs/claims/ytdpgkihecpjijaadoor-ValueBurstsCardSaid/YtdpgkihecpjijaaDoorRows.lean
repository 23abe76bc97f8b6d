/-
  NARROWER THAN 'FOR EVERY INPUT', by the rows' own cells (each row's printed sentence says how): ValueDumps: laid · ValueLoads: laid · ValueBack: laid · ValueBursts: laid · ValueAgain: laid · ValueUnlike: laid · ValueRight: laid · ValueSame: laid.
  DERIVED. THE GIVEN ROWS OF THIS SEAT. 8 by the template 'for every input the law returns true; each argument reads behind the call as it read before'; 0 by the template 'total and deterministic' (their statements: YtdpgkihecpjijaaDoorTotals.lean).
  GIVEN WITH THE SEED: the statements are not yours to turn. If you find one false, say at which input.
  Laid BY PROGRAM, IN A SANDBOX (cutbox-rows.mjs): the forced cells as the released guide's own fill.sh prints them over the translation 8f901bfe819ebcbd… (all of the seat's roots in one cut). By AI agents, Wed Nov 11 2026. No macro, syntax, notation, axiom, sorry.
-/
import Derived.Test.YtdpgkihecpjijaaDoorChecked
import GoSem.Claim
import GoSem.ClaimJoined
import GoSem.ClaimMapViews
import Derived.JoinedTies
import Derived.KernelRfl
namespace Go.Proofs.YtdpgkihecpjijaaDoor
/- THE CELL 'sum', in the pinned program and in every row, IS THE sha256 OF THE DUMP (.gsa) THAT YtdpgkihecpjijaaDoorProg.lean LOADS. Nothing in Lean hashes anything: it is a label: what it is worth is what the hold of that sum in a sandbox is worth. -/
noncomputable def Tryd.pinned : Pinned := { name := "ytdpgkihecpjijaadoor", sum := "8f901bfe819ebcbd599d5ed90b091a9d4cc96f64a0575c7f83bcd734b9459435", checked := Tryd.checked }
namespace Rows
def none {H : Type} : Left H := { results := [], args := [] }

/- WHAT THE LISTED PACKAGE-LEVEL VARIABLES READ AS WHEN THE CALL BEGINS. Each datum BY PROGRAM (the guide's laid-datum.mjs) off the statement by which the dump's own 'gosem.cut.vars' lays the variable. In a bare row this is a premise. The card (YtdpgkihecpjijaaDoorCards.lean) ties it to the program's text. -/
def laid_marshalyard_crc_halves {H : Type} : DataW H := .agg [.lit (.int .u16 0), .lit (.int .u16 4129), .lit (.int .u16 8258), .lit (.int .u16 12387), .lit (.int .u16 16516), .lit (.int .u16 20645), .lit (.int .u16 24774), .lit (.int .u16 28903), .lit (.int .u16 33032), .lit (.int .u16 37161), .lit (.int .u16 41290), .lit (.int .u16 45419), .lit (.int .u16 49548), .lit (.int .u16 53677), .lit (.int .u16 57806), .lit (.int .u16 61935)]

/-- 'marshalyardlaw10.ValueDumps': WHATEVER THE INPUT: true; the input reads as it did. -/
def valueDumpsSpec : ChangeSpec := { name := "valueDumps", fn := fun _ => fun
  | [d] => { results := [.lit (.bool true)], args := [d] }
  | _ => none }
def valueDumpsRow : OpenClaim := { program := "ytdpgkihecpjijaadoor", sum := "8f901bfe819ebcbd599d5ed90b091a9d4cc96f64a0575c7f83bcd734b9459435", func := "marshalyard/marshalyardlaw10.ValueDumps", spec := "valueDumps", unfollowed := true, recurses := true, named := ["marshalyard/crc.halves"], apart := false, laid := [("marshalyard/crc.halves", laid_marshalyard_crc_halves)] }
def ValueDumpsSaid : Prop := valueDumpsRow.holds Tryd.pinned (OpenSpec.ofChange valueDumpsSpec)

/-- ITS FALSE NEIGHBOUR: 'it returns false'. Refute it at one input. -/
def valueDumpsWrong : ChangeSpec := { name := "valueDumps", fn := fun _ => fun
  | [d] => { results := [.lit (.bool false)], args := [d] }
  | _ => none }
def ValueDumpsWrongFalsely : Prop := valueDumpsRow.holds Tryd.pinned (OpenSpec.ofChange valueDumpsWrong)

/-- 'marshalyardlaw10.ValueLoads': WHATEVER THE INPUT: true; the input reads as it did. -/
def valueLoadsSpec : ChangeSpec := { name := "valueLoads", fn := fun _ => fun
  | [d] => { results := [.lit (.bool true)], args := [d] }
  | _ => none }
def valueLoadsRow : OpenClaim := { program := "ytdpgkihecpjijaadoor", sum := "8f901bfe819ebcbd599d5ed90b091a9d4cc96f64a0575c7f83bcd734b9459435", func := "marshalyard/marshalyardlaw10.ValueLoads", spec := "valueLoads", unfollowed := true, recurses := true, named := ["marshalyard/crc.halves"], apart := false, laid := [("marshalyard/crc.halves", laid_marshalyard_crc_halves)] }
def ValueLoadsSaid : Prop := valueLoadsRow.holds Tryd.pinned (OpenSpec.ofChange valueLoadsSpec)

/-- ITS FALSE NEIGHBOUR: 'it returns false'. Refute it at one input. -/
def valueLoadsWrong : ChangeSpec := { name := "valueLoads", fn := fun _ => fun
  | [d] => { results := [.lit (.bool false)], args := [d] }
  | _ => none }
def ValueLoadsWrongFalsely : Prop := valueLoadsRow.holds Tryd.pinned (OpenSpec.ofChange valueLoadsWrong)

/-- 'marshalyardlaw10.ValueBack': WHATEVER THE INPUT: true; the input reads as it did. -/
def valueBackSpec : ChangeSpec := { name := "valueBack", fn := fun _ => fun
  | [d] => { results := [.lit (.bool true)], args := [d] }
  | _ => none }
def valueBackRow : OpenClaim := { program := "ytdpgkihecpjijaadoor", sum := "8f901bfe819ebcbd599d5ed90b091a9d4cc96f64a0575c7f83bcd734b9459435", func := "marshalyard/marshalyardlaw10.ValueBack", spec := "valueBack", unfollowed := true, recurses := true, named := ["marshalyard/crc.halves"], apart := false, laid := [("marshalyard/crc.halves", laid_marshalyard_crc_halves)] }
def ValueBackSaid : Prop := valueBackRow.holds Tryd.pinned (OpenSpec.ofChange valueBackSpec)

/-- ITS FALSE NEIGHBOUR: 'it returns false'. Refute it at one input. -/
def valueBackWrong : ChangeSpec := { name := "valueBack", fn := fun _ => fun
  | [d] => { results := [.lit (.bool false)], args := [d] }
  | _ => none }
def ValueBackWrongFalsely : Prop := valueBackRow.holds Tryd.pinned (OpenSpec.ofChange valueBackWrong)

/-- 'marshalyardlaw10.ValueBursts': WHATEVER THE INPUT: true; the input reads as it did. -/
def valueBurstsSpec : ChangeSpec := { name := "valueBursts", fn := fun _ => fun
  | [d1, d2, d3] => { results := [.lit (.bool true)], args := [d1, d2, d3] }
  | _ => none }
def valueBurstsRow : OpenClaim := { program := "ytdpgkihecpjijaadoor", sum := "8f901bfe819ebcbd599d5ed90b091a9d4cc96f64a0575c7f83bcd734b9459435", func := "marshalyard/marshalyardlaw10.ValueBursts", spec := "valueBursts", unfollowed := true, recurses := true, named := ["marshalyard/crc.halves"], apart := false, laid := [("marshalyard/crc.halves", laid_marshalyard_crc_halves)] }
def ValueBurstsSaid : Prop := valueBurstsRow.holds Tryd.pinned (OpenSpec.ofChange valueBurstsSpec)

/-- ITS FALSE NEIGHBOUR: 'it returns false'. Refute it at one input. -/
def valueBurstsWrong : ChangeSpec := { name := "valueBursts", fn := fun _ => fun
  | [d1, d2, d3] => { results := [.lit (.bool false)], args := [d1, d2, d3] }
  | _ => none }
def ValueBurstsWrongFalsely : Prop := valueBurstsRow.holds Tryd.pinned (OpenSpec.ofChange valueBurstsWrong)

/-- 'marshalyardlaw10.ValueAgain': WHATEVER THE INPUT: true; the input reads as it did. -/
def valueAgainSpec : ChangeSpec := { name := "valueAgain", fn := fun _ => fun
  | [d] => { results := [.lit (.bool true)], args := [d] }
  | _ => none }
def valueAgainRow : OpenClaim := { program := "ytdpgkihecpjijaadoor", sum := "8f901bfe819ebcbd599d5ed90b091a9d4cc96f64a0575c7f83bcd734b9459435", func := "marshalyard/marshalyardlaw10.ValueAgain", spec := "valueAgain", unfollowed := true, recurses := true, named := ["marshalyard/crc.halves"], apart := false, laid := [("marshalyard/crc.halves", laid_marshalyard_crc_halves)] }
def ValueAgainSaid : Prop := valueAgainRow.holds Tryd.pinned (OpenSpec.ofChange valueAgainSpec)

/-- ITS FALSE NEIGHBOUR: 'it returns false'. Refute it at one input. -/
def valueAgainWrong : ChangeSpec := { name := "valueAgain", fn := fun _ => fun
  | [d] => { results := [.lit (.bool false)], args := [d] }
  | _ => none }
def ValueAgainWrongFalsely : Prop := valueAgainRow.holds Tryd.pinned (OpenSpec.ofChange valueAgainWrong)

/-- 'marshalyardlaw10.ValueUnlike': WHATEVER THE INPUT: true; the input reads as it did. -/
def valueUnlikeSpec : ChangeSpec := { name := "valueUnlike", fn := fun _ => fun
  | [d1, d2] => { results := [.lit (.bool true)], args := [d1, d2] }
  | _ => none }
def valueUnlikeRow : OpenClaim := { program := "ytdpgkihecpjijaadoor", sum := "8f901bfe819ebcbd599d5ed90b091a9d4cc96f64a0575c7f83bcd734b9459435", func := "marshalyard/marshalyardlaw10.ValueUnlike", spec := "valueUnlike", unfollowed := true, recurses := true, named := ["marshalyard/crc.halves"], apart := false, laid := [("marshalyard/crc.halves", laid_marshalyard_crc_halves)] }
def ValueUnlikeSaid : Prop := valueUnlikeRow.holds Tryd.pinned (OpenSpec.ofChange valueUnlikeSpec)

/-- ITS FALSE NEIGHBOUR: 'it returns false'. Refute it at one input. -/
def valueUnlikeWrong : ChangeSpec := { name := "valueUnlike", fn := fun _ => fun
  | [d1, d2] => { results := [.lit (.bool false)], args := [d1, d2] }
  | _ => none }
def ValueUnlikeWrongFalsely : Prop := valueUnlikeRow.holds Tryd.pinned (OpenSpec.ofChange valueUnlikeWrong)

/-- 'marshalyardlaw10.ValueRight': WHATEVER THE INPUT: true; the input reads as it did. -/
def valueRightSpec : ChangeSpec := { name := "valueRight", fn := fun _ => fun
  | [d] => { results := [.lit (.bool true)], args := [d] }
  | _ => none }
def valueRightRow : OpenClaim := { program := "ytdpgkihecpjijaadoor", sum := "8f901bfe819ebcbd599d5ed90b091a9d4cc96f64a0575c7f83bcd734b9459435", func := "marshalyard/marshalyardlaw10.ValueRight", spec := "valueRight", unfollowed := true, recurses := true, named := ["marshalyard/crc.halves"], apart := false, laid := [("marshalyard/crc.halves", laid_marshalyard_crc_halves)] }
def ValueRightSaid : Prop := valueRightRow.holds Tryd.pinned (OpenSpec.ofChange valueRightSpec)

/-- ITS FALSE NEIGHBOUR: 'it returns false'. Refute it at one input. -/
def valueRightWrong : ChangeSpec := { name := "valueRight", fn := fun _ => fun
  | [d] => { results := [.lit (.bool false)], args := [d] }
  | _ => none }
def ValueRightWrongFalsely : Prop := valueRightRow.holds Tryd.pinned (OpenSpec.ofChange valueRightWrong)

/-- 'marshalyardlaw10.ValueSame': WHATEVER THE INPUT: true; the input reads as it did. -/
def valueSameSpec : ChangeSpec := { name := "valueSame", fn := fun _ => fun
  | [d1, d2] => { results := [.lit (.bool true)], args := [d1, d2] }
  | _ => none }
def valueSameRow : OpenClaim := { program := "ytdpgkihecpjijaadoor", sum := "8f901bfe819ebcbd599d5ed90b091a9d4cc96f64a0575c7f83bcd734b9459435", func := "marshalyard/marshalyardlaw10.ValueSame", spec := "valueSame", unfollowed := true, recurses := true, named := ["marshalyard/crc.halves"], apart := false, laid := [("marshalyard/crc.halves", laid_marshalyard_crc_halves)] }
def ValueSameSaid : Prop := valueSameRow.holds Tryd.pinned (OpenSpec.ofChange valueSameSpec)

/-- ITS FALSE NEIGHBOUR: 'it returns false'. Refute it at one input. -/
def valueSameWrong : ChangeSpec := { name := "valueSame", fn := fun _ => fun
  | [d1, d2] => { results := [.lit (.bool false)], args := [d1, d2] }
  | _ => none }
def ValueSameWrongFalsely : Prop := valueSameRow.holds Tryd.pinned (OpenSpec.ofChange valueSameWrong)

/- THE SECOND FORM. 'bulk': how many values and letters a reading holds, each counted each time it is reached (what is shared counts as often as it is met; a slice's spare places count too). A statement '..UptoSaid' is the law's where the arguments, and the package variables that the reading takes, are together of bulk at most 1048576: NARROWER than '..Said'. Prove '..Said' where nothing that the law and all that it calls make is longer than what came in: it says more and counts as full. Else prove '..UptoSaid'. A law counts once. -/
mutual
def uptoBulk {H : Type} : DataW H → Nat
  | .lit (.string bytes) => bytes.length + 1
  | .lit _ => 1
  | .nil => 1
  | .ptr d => uptoBulk d + 1
  | .slice elems spare => uptoBulkAll elems + uptoBulkAll spare + 1
  | .agg parts => uptoBulkAll parts + 1
  | .iface _ d => uptoBulk d + 1
  | .map entries => uptoBulkEntries entries + 1
  | .held _ => 1
def uptoBulkAll {H : Type} : List (DataW H) → Nat
  | [] => 0
  | d :: r => uptoBulk d + uptoBulkAll r
def uptoBulkEntries {H : Type} : List (Lit × DataW H) → Nat
  | [] => 0
  | x :: r => uptoBulkEntry x + uptoBulkEntries r
def uptoBulkEntry {H : Type} : Lit × DataW H → Nat
  | (.string bytes, d) => bytes.length + uptoBulk d + 1
  | (_, d) => uptoBulk d + 1
 end
def uptoSmall : (H : Type) → List (DataW H) → Bool := fun _ ds => decide (uptoBulkAll ds ≤ 1048576)
def OpenSpec.upto (s : _root_.Go.ChangeSpec) : _root_.Go.OpenSpec := { _root_.Go.OpenSpec.ofChange s with cond := some uptoSmall }

/-- 'marshalyardlaw10.ValueDumps', WHERE WHAT IT READS IS OF BULK AT MOST 1048576: true; the input reads as it did. -/
def valueDumpsUptoRow : OpenClaim := { program := "ytdpgkihecpjijaadoor", sum := "8f901bfe819ebcbd599d5ed90b091a9d4cc96f64a0575c7f83bcd734b9459435", func := "marshalyard/marshalyardlaw10.ValueDumps", spec := "valueDumps", unfollowed := true, recurses := true, named := ["marshalyard/crc.halves"], apart := false, laid := [("marshalyard/crc.halves", laid_marshalyard_crc_halves)], narrowed := true }
def ValueDumpsUptoSaid : Prop := valueDumpsUptoRow.holds Tryd.pinned (OpenSpec.upto valueDumpsSpec)

/-- 'marshalyardlaw10.ValueLoads', WHERE WHAT IT READS IS OF BULK AT MOST 1048576: true; the input reads as it did. -/
def valueLoadsUptoRow : OpenClaim := { program := "ytdpgkihecpjijaadoor", sum := "8f901bfe819ebcbd599d5ed90b091a9d4cc96f64a0575c7f83bcd734b9459435", func := "marshalyard/marshalyardlaw10.ValueLoads", spec := "valueLoads", unfollowed := true, recurses := true, named := ["marshalyard/crc.halves"], apart := false, laid := [("marshalyard/crc.halves", laid_marshalyard_crc_halves)], narrowed := true }
def ValueLoadsUptoSaid : Prop := valueLoadsUptoRow.holds Tryd.pinned (OpenSpec.upto valueLoadsSpec)

/-- 'marshalyardlaw10.ValueBack', WHERE WHAT IT READS IS OF BULK AT MOST 1048576: true; the input reads as it did. -/
def valueBackUptoRow : OpenClaim := { program := "ytdpgkihecpjijaadoor", sum := "8f901bfe819ebcbd599d5ed90b091a9d4cc96f64a0575c7f83bcd734b9459435", func := "marshalyard/marshalyardlaw10.ValueBack", spec := "valueBack", unfollowed := true, recurses := true, named := ["marshalyard/crc.halves"], apart := false, laid := [("marshalyard/crc.halves", laid_marshalyard_crc_halves)], narrowed := true }
def ValueBackUptoSaid : Prop := valueBackUptoRow.holds Tryd.pinned (OpenSpec.upto valueBackSpec)

/-- 'marshalyardlaw10.ValueBursts', WHERE WHAT IT READS IS OF BULK AT MOST 1048576: true; the input reads as it did. -/
def valueBurstsUptoRow : OpenClaim := { program := "ytdpgkihecpjijaadoor", sum := "8f901bfe819ebcbd599d5ed90b091a9d4cc96f64a0575c7f83bcd734b9459435", func := "marshalyard/marshalyardlaw10.ValueBursts", spec := "valueBursts", unfollowed := true, recurses := true, named := ["marshalyard/crc.halves"], apart := false, laid := [("marshalyard/crc.halves", laid_marshalyard_crc_halves)], narrowed := true }
def ValueBurstsUptoSaid : Prop := valueBurstsUptoRow.holds Tryd.pinned (OpenSpec.upto valueBurstsSpec)

/-- 'marshalyardlaw10.ValueAgain', WHERE WHAT IT READS IS OF BULK AT MOST 1048576: true; the input reads as it did. -/
def valueAgainUptoRow : OpenClaim := { program := "ytdpgkihecpjijaadoor", sum := "8f901bfe819ebcbd599d5ed90b091a9d4cc96f64a0575c7f83bcd734b9459435", func := "marshalyard/marshalyardlaw10.ValueAgain", spec := "valueAgain", unfollowed := true, recurses := true, named := ["marshalyard/crc.halves"], apart := false, laid := [("marshalyard/crc.halves", laid_marshalyard_crc_halves)], narrowed := true }
def ValueAgainUptoSaid : Prop := valueAgainUptoRow.holds Tryd.pinned (OpenSpec.upto valueAgainSpec)

/-- 'marshalyardlaw10.ValueUnlike', WHERE WHAT IT READS IS OF BULK AT MOST 1048576: true; the input reads as it did. -/
def valueUnlikeUptoRow : OpenClaim := { program := "ytdpgkihecpjijaadoor", sum := "8f901bfe819ebcbd599d5ed90b091a9d4cc96f64a0575c7f83bcd734b9459435", func := "marshalyard/marshalyardlaw10.ValueUnlike", spec := "valueUnlike", unfollowed := true, recurses := true, named := ["marshalyard/crc.halves"], apart := false, laid := [("marshalyard/crc.halves", laid_marshalyard_crc_halves)], narrowed := true }
def ValueUnlikeUptoSaid : Prop := valueUnlikeUptoRow.holds Tryd.pinned (OpenSpec.upto valueUnlikeSpec)

/-- 'marshalyardlaw10.ValueRight', WHERE WHAT IT READS IS OF BULK AT MOST 1048576: true; the input reads as it did. -/
def valueRightUptoRow : OpenClaim := { program := "ytdpgkihecpjijaadoor", sum := "8f901bfe819ebcbd599d5ed90b091a9d4cc96f64a0575c7f83bcd734b9459435", func := "marshalyard/marshalyardlaw10.ValueRight", spec := "valueRight", unfollowed := true, recurses := true, named := ["marshalyard/crc.halves"], apart := false, laid := [("marshalyard/crc.halves", laid_marshalyard_crc_halves)], narrowed := true }
def ValueRightUptoSaid : Prop := valueRightUptoRow.holds Tryd.pinned (OpenSpec.upto valueRightSpec)

/-- 'marshalyardlaw10.ValueSame', WHERE WHAT IT READS IS OF BULK AT MOST 1048576: true; the input reads as it did. -/
def valueSameUptoRow : OpenClaim := { program := "ytdpgkihecpjijaadoor", sum := "8f901bfe819ebcbd599d5ed90b091a9d4cc96f64a0575c7f83bcd734b9459435", func := "marshalyard/marshalyardlaw10.ValueSame", spec := "valueSame", unfollowed := true, recurses := true, named := ["marshalyard/crc.halves"], apart := false, laid := [("marshalyard/crc.halves", laid_marshalyard_crc_halves)], narrowed := true }
def ValueSameUptoSaid : Prop := valueSameUptoRow.holds Tryd.pinned (OpenSpec.upto valueSameSpec)

end Rows
end Go.Proofs.YtdpgkihecpjijaaDoor
