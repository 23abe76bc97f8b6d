/- Layer 10: how the arguments read, and the table that the rows list. -/
import Derived.Test.YtdpgkihecpjijaaDoorCards
import Derived.Test.YtdpgkihecpjijaaDoorTie
import Derived.Test.YtdpgkihecpjijaaDoorVy
import Derived.Test.YtdpgkihecpjijaaDoorClose
import Derived.Test.YtdpgkihecpjijaaDoorOwn
import Derived.Lib.SmallJoins
namespace Go.Proofs.YtdpgkihecpjijaaDoor.Laws
open Go Go.ChangeShapes Go.WideShapes Go.ChangeAt Go.RowKit Go.Joins Go.Lib
open Go.Proofs Go.Proofs.YtdpgkihecpjijaaDoor Go.Proofs.YtdpgkihecpjijaaDoor.T Go.Proofs.YtdpgkihecpjijaaDoor.Own
set_option linter.unusedVariables false
set_option maxRecDepth 100000

theorem own : ownKnob Tryd.prog.godebug = none := by kernel_rfl
theorem laidOut : laidOutB Tryd.prog = true := by kernel_rfl

abbrev laid1 : List (String × DataW Unit) := [("marshalyard/crc.halves", Rows.laid_marshalyard_crc_halves)]
theorem hv_of {W : World} (h : laidMetH Tryd.prog laid1 W) : Hv W := by
  have ht := Close.tab_of_laid (P := Tryd.prog) (W := W) (laid := laid1) (name := "marshalyard/crc.halves") (g := 0) (t := 74) (e := 37) (n := 16) (zs := hz) (k := .u16) rfl (by
    show _ ∈ laid1
    have : (Lib.tabData .u16 hz : DataW Unit) = Rows.laid_marshalyard_crc_halves := by kernel_rfl
    rw [this]; simp [laid1]) (by kernel_rfl) (by kernel_rfl) Tryd.underlying74 Tryd.underlying37 (by kernel_rfl) (by kernel_rfl) h
  intro i hi
  have hr := ht.cell (g := 0) (by kernel_rfl) i (by simpa [hz] using hi)
  exact hr
theorem open_str {H : Type} {enc : TypeId × Value → H} {W : World} {base : Nat} {v : Value} {d : DataW H} {p : List MemPlace} (hv : Value.okWide Tryd.prog W .any base 9 v) (h : DataW.Trod enc Tryd.prog W 0 (fun _ => true) true 9 v d p) :
    ∃ s : ByteArray, v = .string s ∧ s.size ≤ maxLen := by
  obtain ⟨s, e, _, _, hs⟩ := Go.ChangeMaps.open_string Tryd.underlying9 hv h
  exact ⟨s, e, hs⟩

noncomputable def laidWorld (os : Os) : World :=
  let w0 := World.holding Tryd.prog os ⟨#[], #[], []⟩
  let set := fun (cs : Array Value) (o : Obj) => match o with | .cells _ t frozen => Obj.cells cs t frozen | o => o
  { w0 with heap := w0.heap.modify 0 (set (hz.map (Value.int .u16)).toArray) }
theorem laidWorld_met (os : Os) (args : Array Value) : laidMetH Tryd.prog laid1 ((laidWorld os).forCall (fun _ _ => 0) ⟨#[], args, []⟩).memory :=
  (Close.laidMetH_plain' _ _ _ rfl).2 (laidMet_of_run' 8 (by kernel_rfl) (by kernel_rfl))

end Go.Proofs.YtdpgkihecpjijaaDoor.Laws
