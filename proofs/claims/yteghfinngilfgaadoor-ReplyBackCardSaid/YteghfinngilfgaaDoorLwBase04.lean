/- Layer 4: the tables that the rows list. -/
import Derived.Test.YteghfinngilfgaaDoorCards
import Derived.Test.YteghfinngilfgaaDoorTie
import Derived.Test.YteghfinngilfgaaDoorYr
import Derived.Test.YteghfinngilfgaaDoorClose
import Derived.Lib.SmallJoins
namespace Go.Proofs.YteghfinngilfgaaDoor.Laws
open Go Go.ChangeShapes Go.WideShapes Go.ChangeAt Go.RowKit Go.Joins
open Go.Proofs.YteghfinngilfgaaDoor Go.Proofs.YteghfinngilfgaaDoor.T
set_option linter.unusedVariables false
set_option maxRecDepth 100000

theorem own : ownKnob Tryd.prog.godebug = none := by kernel_rfl
theorem laidOut : laidOutB Tryd.prog = true := by kernel_rfl

abbrev laid3 : List (String × DataW Unit) := [("math/bits.deBruijn32tab", Rows.laid_math_bits_deBruijn32tab), ("math/bits.deBruijn64tab", Rows.laid_math_bits_deBruijn64tab), ("internal/strconv.uint64pow10", Rows.laid_internal_strconv_uint64pow10), ("strconv.ErrRange", Rows.laid_strconv_ErrRange), ("strconv.ErrSyntax", Rows.laid_strconv_ErrSyntax)]
theorem tab_of {W : World} (h : laidMetH Tryd.prog laid3 W) : Tab W :=
  Close.tab_of_laid (g := 1) (t := 92) (e := 80) (n := 20) (zs := Lib.pow10Tab) (k := .u64) rfl (by
    show _ ∈ laid3
    have : (Lib.tabData .u64 Lib.pow10Tab : DataW Unit) = Rows.laid_internal_strconv_uint64pow10 := by kernel_rfl
    rw [this]; simp [laid3]) (by kernel_rfl) (by kernel_rfl) Tryd.underlying92 Tryd.underlying80 (by kernel_rfl) (by kernel_rfl) h

noncomputable def low : Nat := (World.holding Tryd.prog default ⟨#[], #[], []⟩).heap.size
noncomputable def laidWorld (os : Os) : World :=
  let w0 := World.holding Tryd.prog os ⟨#[.cells #[.string ⟨#[118, 97, 108, 117, 101, 32, 111, 117, 116, 32, 111, 102, 32, 114, 97, 110, 103, 101]⟩] 107, .cells #[.string ⟨#[105, 110, 118, 97, 108, 105, 100, 32, 115, 121, 110, 116, 97, 120]⟩] 107], #[], []⟩
  let set := fun (cs : Array Value) (o : Obj) => match o with | .cells _ t frozen => Obj.cells cs t frozen | o => o
  { w0 with heap := ((((w0.heap.modify 3 (set #[.iface 105 (.pointer (some ⟨low, 0, none⟩))])).modify 2 (set #[.iface 105 (.pointer (some ⟨low + 1, 0, none⟩))])).modify 1 (set (Lib.pow10Tab.map (Value.int .u64)).toArray)).modify 4 (set ([0, 1, 28, 2, 29, 14, 24, 3, 30, 22, 20, 15, 25, 17, 4, 8, 31, 27, 13, 23, 21, 19, 16, 7, 26, 12, 18, 6, 11, 5, 10, 9].map (Value.int .u8)).toArray)).modify 5 (set ([0, 1, 56, 2, 57, 49, 28, 3, 61, 58, 42, 50, 38, 29, 17, 4, 62, 47, 59, 36, 45, 43, 51, 22, 53, 39, 33, 30, 24, 18, 12, 5, 63, 55, 48, 27, 60, 41, 37, 16, 46, 35, 44, 21, 52, 32, 23, 11, 54, 26, 40, 15, 34, 20, 31, 10, 25, 14, 19, 9, 13, 8, 7, 6].map (Value.int .u8)).toArray) }
theorem laidWorld_met (os : Os) (args : Array Value) : laidMetH Tryd.prog laid3 ((laidWorld os).forCall (fun _ _ => 0) ⟨#[], args, []⟩).memory :=
  (Close.laidMetH_plain' _ _ _ rfl).2 (laidMet_of_run' 8 (by kernel_rfl) (by kernel_rfl))

section
variable {H : Type} {enc : TypeId × Value → H} {W : World}
theorem open_reply {base : Nat} {v : Value} {d : DataW H} {p : List MemPlace} (hv : Value.okWide Tryd.prog W .any base 24 v) (h : DataW.Trod enc Tryd.prog W 0 (fun _ => true) true 24 v d p) (hw : ∀ n ∈ d.weights Tryd.prog 24, n ≤ reachBytes) :
    ∃ (x : T) (A : Option Addr) (c : Nat), v = tV x.k x.z x.t A x.l.length c ∧ RdT W A x ∧ Opd x := by
  obtain ⟨cs, rfl, hsz⟩ := okWide_struct Tryd.underlying24 hv
  obtain ⟨fuel, hf⟩ := h
  obtain ⟨y, A, c, e, hr, ho⟩ := tree_of _ (x := (d, p)) (Nat.le_refl _) hf hw
  refine ⟨y, A, c, ?_, hr, ho⟩
  have e2 : cs.toList = [.int .i64 y.k, .int .i64 y.z, .string y.t, .slice A y.l.length c] := e
  have e3 : cs = #[.int .i64 y.k, .int .i64 y.z, .string y.t, .slice A y.l.length c] := by rw [← e2]
  rw [e3]
theorem open_txt {base : Nat} {v : Value} {d : DataW H} {p : List MemPlace} (hv : Value.okWide Tryd.prog W .any base 9 v) (h : DataW.Trod enc Tryd.prog W 0 (fun _ => true) true 9 v d p) (hw : ∀ n ∈ d.weights Tryd.prog 9, n ≤ reachBytes) :
    ∃ s : ByteArray, v = .string s ∧ s.size ≤ reachBytes := by
  obtain ⟨s, rfl⟩ := okWide_string Tryd.underlying9 hv
  obtain ⟨fuel, hf⟩ := h
  obtain ⟨s', e1, e2, -⟩ := DataW.trod_string Tryd.underlying9 hf
  refine ⟨s, rfl, ?_⟩
  have e3 : s = s' := by simpa [Value.cells] using e1
  subst e3
  have e4 : d = .lit (.string s.data.toList) := by injection e2
  subst e4
  have := hw s.data.toList.length (by simp [DataW.weights])
  simpa using this
end
end Go.Proofs.YteghfinngilfgaaDoor.Laws
