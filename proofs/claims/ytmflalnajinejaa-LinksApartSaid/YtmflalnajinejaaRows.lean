/-
  NARROWER THAN 'FOR EVERY INPUT', by the rows' own cells (each row's printed sentence says how): LinksAll: loops · LinksKeep: loops · LinksCount: loops · LinksApart: loops.
  DERIVED. THE GIVEN ROWS OF THIS SEAT. 5 by the template 'for every input the law returns true; each argument reads behind the call as it read before'; 0 by the template 'total and deterministic' (their statements: YtmflalnajinejaaTotals.lean).
  GIVEN WITH THE SEED: the statements are not yours to turn. If you find one false, say at which input.
  Laid BY PROGRAM, IN A SANDBOX (cutbox-rows.mjs): the forced cells as the released guide's own fill.sh prints them over the translation 0ed24c6a870045b5… (all of the seat's roots in one cut). By AI agents, Wed Nov 11 2026. No macro, syntax, notation, axiom, sorry.
-/
import Derived.Test.YtmflalnajinejaaChecked
import GoSem.Claim
import GoSem.ClaimJoined
import GoSem.ClaimMapViews
import Derived.JoinedTies
import Derived.KernelRfl
namespace Go.Proofs.Ytmflalnajinejaa
/- THE CELL 'sum', in the pinned program and in every row, IS THE sha256 OF THE DUMP (.gsa) THAT YtmflalnajinejaaProg.lean LOADS. Nothing in Lean hashes anything: it is a label: what it is worth is what the hold of that sum in a sandbox is worth. -/
noncomputable def Try.pinned : Pinned := { name := "ytmflalnajinejaa", sum := "0ed24c6a870045b52cdebe127df4bb241f36d1f49334f0d556b1ed0341b4407a", checked := Try.checked }
namespace Rows
def none {H : Type} : Left H := { results := [], args := [] }

/-- 'marshalyardlaw18.LinksAll': WHATEVER THE INPUT: true; the input reads as it did. -/
def linksAllSpec : ChangeSpec := { name := "linksAll", fn := fun _ => fun
  | [d] => { results := [.lit (.bool true)], args := [d] }
  | _ => none }
def linksAllRow : OpenClaim := { program := "ytmflalnajinejaa", sum := "0ed24c6a870045b52cdebe127df4bb241f36d1f49334f0d556b1ed0341b4407a", func := "marshalyard/marshalyardlaw18.LinksAll", spec := "linksAll", unfollowed := true, recurses := true, loops := true, plainKeys := false, apart := false }
def LinksAllSaid : Prop := linksAllRow.holds Try.pinned (OpenSpec.ofChange linksAllSpec)

/-- ITS FALSE NEIGHBOUR: 'it returns false'. Refute it at one input. -/
def linksAllWrong : ChangeSpec := { name := "linksAll", fn := fun _ => fun
  | [d] => { results := [.lit (.bool false)], args := [d] }
  | _ => none }
def LinksAllWrongFalsely : Prop := linksAllRow.holds Try.pinned (OpenSpec.ofChange linksAllWrong)

/-- 'marshalyardlaw18.LinksOrder': WHATEVER THE INPUT: true; the input reads as it did. -/
def linksOrderSpec : ChangeSpec := { name := "linksOrder", fn := fun _ => fun
  | [d1, d2] => { results := [.lit (.bool true)], args := [d1, d2] }
  | _ => none }
def linksOrderRow : OpenClaim := { program := "ytmflalnajinejaa", sum := "0ed24c6a870045b52cdebe127df4bb241f36d1f49334f0d556b1ed0341b4407a", func := "marshalyard/marshalyardlaw18.LinksOrder", spec := "linksOrder", unfollowed := true, recurses := true, plainKeys := false, apart := false }
def LinksOrderSaid : Prop := linksOrderRow.holds Try.pinned (OpenSpec.ofChange linksOrderSpec)

/-- ITS FALSE NEIGHBOUR: 'it returns false'. Refute it at one input. -/
def linksOrderWrong : ChangeSpec := { name := "linksOrder", fn := fun _ => fun
  | [d1, d2] => { results := [.lit (.bool false)], args := [d1, d2] }
  | _ => none }
def LinksOrderWrongFalsely : Prop := linksOrderRow.holds Try.pinned (OpenSpec.ofChange linksOrderWrong)

/-- 'marshalyardlaw18.LinksKeep': WHATEVER THE INPUT: true; the input reads as it did. -/
def linksKeepSpec : ChangeSpec := { name := "linksKeep", fn := fun _ => fun
  | [d] => { results := [.lit (.bool true)], args := [d] }
  | _ => none }
def linksKeepRow : OpenClaim := { program := "ytmflalnajinejaa", sum := "0ed24c6a870045b52cdebe127df4bb241f36d1f49334f0d556b1ed0341b4407a", func := "marshalyard/marshalyardlaw18.LinksKeep", spec := "linksKeep", unfollowed := true, recurses := true, loops := true, plainKeys := false, apart := false }
def LinksKeepSaid : Prop := linksKeepRow.holds Try.pinned (OpenSpec.ofChange linksKeepSpec)

/-- ITS FALSE NEIGHBOUR: 'it returns false'. Refute it at one input. -/
def linksKeepWrong : ChangeSpec := { name := "linksKeep", fn := fun _ => fun
  | [d] => { results := [.lit (.bool false)], args := [d] }
  | _ => none }
def LinksKeepWrongFalsely : Prop := linksKeepRow.holds Try.pinned (OpenSpec.ofChange linksKeepWrong)

/-- 'marshalyardlaw18.LinksCount': WHATEVER THE INPUT: true; the input reads as it did. -/
def linksCountSpec : ChangeSpec := { name := "linksCount", fn := fun _ => fun
  | [d] => { results := [.lit (.bool true)], args := [d] }
  | _ => none }
def linksCountRow : OpenClaim := { program := "ytmflalnajinejaa", sum := "0ed24c6a870045b52cdebe127df4bb241f36d1f49334f0d556b1ed0341b4407a", func := "marshalyard/marshalyardlaw18.LinksCount", spec := "linksCount", unfollowed := true, recurses := true, loops := true, plainKeys := false, apart := false }
def LinksCountSaid : Prop := linksCountRow.holds Try.pinned (OpenSpec.ofChange linksCountSpec)

/-- ITS FALSE NEIGHBOUR: 'it returns false'. Refute it at one input. -/
def linksCountWrong : ChangeSpec := { name := "linksCount", fn := fun _ => fun
  | [d] => { results := [.lit (.bool false)], args := [d] }
  | _ => none }
def LinksCountWrongFalsely : Prop := linksCountRow.holds Try.pinned (OpenSpec.ofChange linksCountWrong)

/-- 'marshalyardlaw18.LinksApart': WHATEVER THE INPUT: true; the input reads as it did. -/
def linksApartSpec : ChangeSpec := { name := "linksApart", fn := fun _ => fun
  | [d1, d2] => { results := [.lit (.bool true)], args := [d1, d2] }
  | _ => none }
def linksApartRow : OpenClaim := { program := "ytmflalnajinejaa", sum := "0ed24c6a870045b52cdebe127df4bb241f36d1f49334f0d556b1ed0341b4407a", func := "marshalyard/marshalyardlaw18.LinksApart", spec := "linksApart", inPlace := ["maps.clone"], unfollowed := true, recurses := true, loops := true, plainKeys := false, apart := false }
def LinksApartSaid : Prop := linksApartRow.holds Try.pinned (OpenSpec.ofChange linksApartSpec)

/-- ITS FALSE NEIGHBOUR: 'it returns false'. Refute it at one input. -/
def linksApartWrong : ChangeSpec := { name := "linksApart", fn := fun _ => fun
  | [d1, d2] => { results := [.lit (.bool false)], args := [d1, d2] }
  | _ => none }
def LinksApartWrongFalsely : Prop := linksApartRow.holds Try.pinned (OpenSpec.ofChange linksApartWrong)

/- THE SECOND FORM. 'bulk': how many values and letters a reading holds, each counted each time it is reached (what is shared counts as often as it is met; a slice's spare places count too). A statement '..UptoSaid' is the law's where the arguments, and the package variables that the reading takes, are together of bulk at most 1048576: NARROWER than '..Said'. Prove '..Said' where nothing that the law and all that it calls make is longer than what came in: it says more and counts as full. Else prove '..UptoSaid'. A law counts once. -/
mutual
def uptoBulk {H : Type} : DataW H → Nat
  | .lit (.string bytes) => bytes.length + 1
  | .lit _ => 1
  | .nil => 1
  | .ptr d => uptoBulk d + 1
  | .slice elems spare => uptoBulkAll elems + uptoBulkAll spare + 1
  | .agg parts => uptoBulkAll parts + 1
  | .iface _ d => uptoBulk d + 1
  | .map entries => uptoBulkEntries entries + 1
  | .held _ => 1
def uptoBulkAll {H : Type} : List (DataW H) → Nat
  | [] => 0
  | d :: r => uptoBulk d + uptoBulkAll r
def uptoBulkEntries {H : Type} : List (Lit × DataW H) → Nat
  | [] => 0
  | x :: r => uptoBulkEntry x + uptoBulkEntries r
def uptoBulkEntry {H : Type} : Lit × DataW H → Nat
  | (.string bytes, d) => bytes.length + uptoBulk d + 1
  | (_, d) => uptoBulk d + 1
 end
def uptoSmall : (H : Type) → List (DataW H) → Bool := fun _ ds => decide (uptoBulkAll ds ≤ 1048576)
def OpenSpec.upto (s : _root_.Go.ChangeSpec) : _root_.Go.OpenSpec := { _root_.Go.OpenSpec.ofChange s with cond := some uptoSmall }

/-- 'marshalyardlaw18.LinksAll', WHERE WHAT IT READS IS OF BULK AT MOST 1048576: true; the input reads as it did. -/
def linksAllUptoRow : OpenClaim := { program := "ytmflalnajinejaa", sum := "0ed24c6a870045b52cdebe127df4bb241f36d1f49334f0d556b1ed0341b4407a", func := "marshalyard/marshalyardlaw18.LinksAll", spec := "linksAll", unfollowed := true, recurses := true, loops := true, plainKeys := false, apart := false, narrowed := true }
def LinksAllUptoSaid : Prop := linksAllUptoRow.holds Try.pinned (OpenSpec.upto linksAllSpec)

/-- 'marshalyardlaw18.LinksOrder', WHERE WHAT IT READS IS OF BULK AT MOST 1048576: true; the input reads as it did. -/
def linksOrderUptoRow : OpenClaim := { program := "ytmflalnajinejaa", sum := "0ed24c6a870045b52cdebe127df4bb241f36d1f49334f0d556b1ed0341b4407a", func := "marshalyard/marshalyardlaw18.LinksOrder", spec := "linksOrder", unfollowed := true, recurses := true, plainKeys := false, apart := false, narrowed := true }
def LinksOrderUptoSaid : Prop := linksOrderUptoRow.holds Try.pinned (OpenSpec.upto linksOrderSpec)

/-- 'marshalyardlaw18.LinksKeep', WHERE WHAT IT READS IS OF BULK AT MOST 1048576: true; the input reads as it did. -/
def linksKeepUptoRow : OpenClaim := { program := "ytmflalnajinejaa", sum := "0ed24c6a870045b52cdebe127df4bb241f36d1f49334f0d556b1ed0341b4407a", func := "marshalyard/marshalyardlaw18.LinksKeep", spec := "linksKeep", unfollowed := true, recurses := true, loops := true, plainKeys := false, apart := false, narrowed := true }
def LinksKeepUptoSaid : Prop := linksKeepUptoRow.holds Try.pinned (OpenSpec.upto linksKeepSpec)

/-- 'marshalyardlaw18.LinksCount', WHERE WHAT IT READS IS OF BULK AT MOST 1048576: true; the input reads as it did. -/
def linksCountUptoRow : OpenClaim := { program := "ytmflalnajinejaa", sum := "0ed24c6a870045b52cdebe127df4bb241f36d1f49334f0d556b1ed0341b4407a", func := "marshalyard/marshalyardlaw18.LinksCount", spec := "linksCount", unfollowed := true, recurses := true, loops := true, plainKeys := false, apart := false, narrowed := true }
def LinksCountUptoSaid : Prop := linksCountUptoRow.holds Try.pinned (OpenSpec.upto linksCountSpec)

/-- 'marshalyardlaw18.LinksApart', WHERE WHAT IT READS IS OF BULK AT MOST 1048576: true; the input reads as it did. -/
def linksApartUptoRow : OpenClaim := { program := "ytmflalnajinejaa", sum := "0ed24c6a870045b52cdebe127df4bb241f36d1f49334f0d556b1ed0341b4407a", func := "marshalyard/marshalyardlaw18.LinksApart", spec := "linksApart", inPlace := ["maps.clone"], unfollowed := true, recurses := true, loops := true, plainKeys := false, apart := false, narrowed := true }
def LinksApartUptoSaid : Prop := linksApartUptoRow.holds Try.pinned (OpenSpec.upto linksApartSpec)

end Rows
end Go.Proofs.Ytmflalnajinejaa
