/- Layer 4: the two errors that the rows list. -/
import Derived.Test.YteghfinngilfgaaDoorZs
import Derived.Test.YteghfinngilfgaaDoorLwBase04
namespace Go.Proofs.YteghfinngilfgaaDoor.Laws
open Go Go.ChangeShapes Go.WideShapes Go.ChangeAt Go.RowKit Go.Joins
open Go.Proofs.YteghfinngilfgaaDoor Go.Proofs.YteghfinngilfgaaDoor.T
set_option linter.unusedVariables false
set_option linter.unusedSimpArgs false
set_option maxRecDepth 100000

theorem err_of {W : World} {n nm : String} {text : List UInt8} {g : Nat} (h : laidMet Tryd.prog laid3 W) (hm : (n, (.iface nm (.ptr (.agg [.lit (.string text)])) : DataW Unit)) ∈ laid3) (hg : Tryd.prog.globalNamed n = some g) (hty : (Tryd.prog.globals[g]?).map (·.type) = some 63) : ∃ t p, W.var? Tryd.prog n = some #[.iface t p] := by
  obtain ⟨ps, hv, _⟩ := h
  obtain ⟨g', t', cs, fuel, p, hg', ht', hvar, hd⟩ := Close.laidVars_at hv _ hm
  obtain rfl := Option.some.inj (hg.symm.trans hg')
  obtain rfl := Option.some.inj (hty.symm.trans ht')
  obtain ⟨f1, u, v, e, -, -⟩ := iface_of_trod Tryd.underlying63 hd
  have e2 : cs = #[.iface u v] := by rw [← e]
  exact ⟨u, v, by rw [hvar, e2]⟩
theorem errV_of {W : World} (h : laidMetH Tryd.prog laid3 W) : ErrV W := by
  rw [Close.laidMetH_plain' _ _ _ rfl] at h
  obtain ⟨t1, p1, h1⟩ := err_of (n := "strconv.ErrSyntax") (g := 2) h (by simp [laid3, Rows.laid_strconv_ErrSyntax]; exact ⟨rfl, rfl⟩) (by kernel_rfl) (by kernel_rfl)
  obtain ⟨t2, p2, h2⟩ := err_of (n := "strconv.ErrRange") (g := 3) h (by simp [laid3, Rows.laid_strconv_ErrRange]; exact ⟨rfl, rfl⟩) (by kernel_rfl) (by kernel_rfl)
  exact ⟨t1, t2, p1, p2, h1, h2⟩
end Go.Proofs.YteghfinngilfgaaDoor.Laws
