/- Layer 9: the variables that the rows of PointPrints and PointParses list. -/
import Derived.Test.YthncmfchphigdaaDoorCards
import Derived.Test.YthncmfchphigdaaDoorTie
import Derived.Test.YthncmfchphigdaaDoorLg
import Derived.Test.YthncmfchphigdaaDoorClose
import Derived.Lib.SmallJoins
import Derived.Lib.LaidU8
import Derived.SizedLaws
namespace Go.Proofs.YthncmfchphigdaaDoor.Laws
open Go Go.ChangeShapes Go.WideShapes Go.ChangeAt Go.RowKit Go.Joins
open Go.Proofs.YthncmfchphigdaaDoor Go.Proofs.YthncmfchphigdaaDoor.T
set_option linter.unusedVariables false
set_option linter.unusedSimpArgs false
set_option maxRecDepth 100000

theorem own : ownKnob Tryd.prog.godebug = none := by kernel_rfl
theorem laidOut : laidOutB Tryd.prog = true := by kernel_rfl
theorem cells3 : Tryd.prog.cellsOf 3 = 1 := by kernel_rfl
theorem cells23 : Tryd.prog.cellsOf 23 = 2 := by kernel_rfl

abbrev laid7 : List (String × DataW Unit) := [("math/bits.deBruijn32tab", Rows.laid_math_bits_deBruijn32tab), ("math/bits.deBruijn64tab", Rows.laid_math_bits_deBruijn64tab), ("internal/strconv.uint64pow10", Rows.laid_internal_strconv_uint64pow10), ("unicode/utf8.acceptRanges", Rows.laid_unicode_utf8_acceptRanges), ("strconv.ErrRange", Rows.laid_strconv_ErrRange), ("strconv.ErrSyntax", Rows.laid_strconv_ErrSyntax), ("unicode/utf8.first", Rows.laid_unicode_utf8_first)]
theorem plain7 : (laid7.all fun x => x.2.handleName?.isNone) = true := by kernel_rfl
theorem tab_of {W : World} (h : laidMetH Tryd.prog laid7 W) : Tab W :=
  Close.tab_of_laid (g := 3) (t := 91) (e := 79) (n := 20) (zs := Lib.pow10Tab) (k := .u64) plain7 (by
    show _ ∈ laid7
    have : (Lib.tabData .u64 Lib.pow10Tab : DataW Unit) = Rows.laid_internal_strconv_uint64pow10 := by kernel_rfl
    rw [this]; simp [laid7]) (by kernel_rfl) (by kernel_rfl) Tryd.underlying91 Tryd.underlying79 (by kernel_rfl) (by kernel_rfl) h
theorem err_of {W : World} {n nm : String} {text : List UInt8} {g : Nat} (h : laidMet Tryd.prog laid7 W) (hm : (n, (.iface nm (.ptr (.agg [.lit (.string text)])) : DataW Unit)) ∈ laid7) (hg : Tryd.prog.globalNamed n = some g) (hty : (Tryd.prog.globals[g]?).map (·.type) = some 50) : ∃ t p, W.var? Tryd.prog n = some #[.iface t p] := by
  obtain ⟨ps, hv, _⟩ := h
  obtain ⟨g', t', cs, fuel, p, hg', ht', hvar, hd⟩ := Close.laidVars_at hv _ hm
  obtain rfl := Option.some.inj (hg.symm.trans hg')
  obtain rfl := Option.some.inj (hty.symm.trans ht')
  obtain ⟨f1, u, v, e, -, -⟩ := iface_of_trod Tryd.underlying50 hd
  have e2 : cs = #[.iface u v] := by rw [← e]
  exact ⟨u, v, by rw [hvar, e2]⟩
theorem errV_of {W : World} (h : laidMetH Tryd.prog laid7 W) : ErrV W := by
  rw [Close.laidMetH_plain' _ _ _ plain7] at h
  obtain ⟨t1, p1, h1⟩ := err_of (n := "strconv.ErrSyntax") (g := 1) h (.tail _ (.tail _ (.tail _ (.tail _ (.tail _ (.head _)))))) (by kernel_rfl) (by kernel_rfl)
  obtain ⟨t2, p2, h2⟩ := err_of (n := "strconv.ErrRange") (g := 2) h (.tail _ (.tail _ (.tail _ (.tail _ (.head _))))) (by kernel_rfl) (by kernel_rfl)
  exact ⟨t1, t2, p1, p2, h1, h2⟩
theorem utf_of {W : World} (h : laidMetH Tryd.prog laid7 W) : Lib.Utf8Tabs 4 5 W := by
  rw [Close.laidMetH_plain' _ _ _ plain7] at h
  have e1 : (Lib.firstData : DataW Unit) = Rows.laid_unicode_utf8_first := by kernel_rfl
  have e2 : (Lib.acceptData : DataW Unit) = Rows.laid_unicode_utf8_acceptRanges := by kernel_rfl
  exact utf8Tabs_of_reads Tryd.lays260 ⟨by kernel_rfl, by kernel_rfl, by kernel_rfl, by kernel_rfl, by kernel_rfl, by kernel_rfl, by kernel_rfl⟩ (Lib.laidMet.reads h (by rw [e1]; exact .tail _ (.tail _ (.tail _ (.tail _ (.tail _ (.tail _ (.head _)))))))) (Lib.laidMet.reads h (by rw [e2]; exact .tail _ (.tail _ (.tail _ (.head _)))))

section
variable {H : Type} {enc : TypeId × Value → H} {W : World}
theorem open_pt {base : Nat} {v : Value} {d : DataW H} {p : List MemPlace} (hv : Value.okWide Tryd.prog W .any base 23 v) (h : DataW.Trod enc Tryd.prog W 0 (fun _ => true) true 23 v d p) :
    ∃ x y : Int, v = pt x y ∧ (-9223372036854775808 ≤ x ∧ x ≤ 9223372036854775807) ∧ (-9223372036854775808 ≤ y ∧ y ≤ 9223372036854775807) := by
  obtain ⟨c0, c1, y0, y1, m, rfl, rfl, rfl, hy0, hy1⟩ := open_agg2 Tryd.underlying23 (by kernel_rfl) cells23 hv h
  obtain ⟨a, e0, rfl, wa⟩ := DataW.trod_int Tryd.underlying3 hy0
  obtain ⟨b, e1, rfl, wb⟩ := DataW.trod_int Tryd.underlying3 hy1
  simp at e0 e1
  subst e0 e1
  simp only [Lit.wf, IntKind.min, IntKind.max, IntKind.signed, IntKind.bits, Bool.and_eq_true, decide_eq_true_eq, if_true, Bool.false_eq_true, if_false] at wa wb
  exact ⟨a, b, rfl, by omega, by omega⟩
theorem open_txt {base : Nat} {v : Value} {d : DataW H} {p : List MemPlace} (hv : Value.okWide Tryd.prog W .any base 9 v) (h : DataW.Trod enc Tryd.prog W 0 (fun _ => true) true 9 v d p) (hw : ∀ n ∈ d.weights Tryd.prog 9, n ≤ reachBytes) :
    ∃ s : ByteArray, v = .string s ∧ s.size ≤ reachBytes := by
  obtain ⟨s, rfl⟩ := okWide_string Tryd.underlying9 hv
  obtain ⟨fuel, hf⟩ := h
  obtain ⟨s', e1, e2, -⟩ := DataW.trod_string Tryd.underlying9 hf
  refine ⟨s, rfl, ?_⟩
  have e3 : s = s' := by simpa [Value.cells] using e1
  subst e3
  have e4 : d = .lit (.string s.data.toList) := by injection e2
  subst e4
  have := hw s.data.toList.length (by simp [DataW.weights])
  simpa using this
end
noncomputable def low : Nat := (World.holding Tryd.prog default ⟨#[], #[], []⟩).heap.size
def litV : DataW Unit → Value
  | .lit (.int k n) => .int k n
  | _ => .int .u8 0
def litVs : DataW Unit → List Value
  | .agg ps => ps.map litV
  | _ => []
def litVss : DataW Unit → List Value
  | .agg ps => (ps.map litVs).flatten
  | _ => []
noncomputable def laidWorld (os : Os) : World :=
  let w0 := World.holding Tryd.prog os ⟨#[.cells #[.string ⟨#[118, 97, 108, 117, 101, 32, 111, 117, 116, 32, 111, 102, 32, 114, 97, 110, 103, 101]⟩] 103, .cells #[.string ⟨#[105, 110, 118, 97, 108, 105, 100, 32, 115, 121, 110, 116, 97, 120]⟩] 103], #[], []⟩
  let set := fun (cs : Array Value) (o : Obj) => match o with | .cells _ t frozen => Obj.cells cs t frozen | o => o
  { w0 with heap := ((((((w0.heap.modify 2 (set #[.iface 101 (.pointer (some ⟨low, 0, none⟩))])).modify 1 (set #[.iface 101 (.pointer (some ⟨low + 1, 0, none⟩))])).modify 3 (set (litVs Rows.laid_internal_strconv_uint64pow10).toArray)).modify 6 (set (litVs Rows.laid_math_bits_deBruijn32tab).toArray)).modify 7 (set (litVs Rows.laid_math_bits_deBruijn64tab).toArray)).modify 4 (set (litVs Rows.laid_unicode_utf8_first).toArray)).modify 5 (set (litVss Rows.laid_unicode_utf8_acceptRanges).toArray) }
theorem laidWorld_met (os : Os) (args : Array Value) : laidMetH Tryd.prog laid7 ((laidWorld os).forCall (fun _ _ => 0) ⟨#[], args, []⟩).memory :=
  (Close.laidMetH_plain' _ _ _ plain7).2 (laidMet_of_run' 8 (by kernel_rfl) (by kernel_rfl))

end Go.Proofs.YthncmfchphigdaaDoor.Laws
