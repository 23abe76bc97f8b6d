import Derived.Deep.DeepCutAuto
import Derived.Laws.OwnMore
import Derived.OwnWalk
import Derived.Lib.AppendStr
import Derived.Lib.SliceRun
import Derived.Lib.SmallJoins
import Derived.IntWalk
import Derived.Lib.ItoaLen
import Derived.Test.YtdfijefgklhmdaaDoorProg
import Derived.Test.YtdfijefgklhmdaaDoorShelf
import Derived.Test.YtdfijefgklhmdaaDoorMem
import Derived.Test.YtdfijefgklhmdaaDoorSo
import Derived.Test.YtdfijefgklhmdaaDoorRy
import Derived.WalkKit
import Derived.Outline
import Derived.WalkLawsBesides
import Derived.Deep.QuietTactic
import Derived.BigQuiet
import Derived.Lib.Hide
import Derived.Handy
import Derived.Deep.RegionHeld3
import Derived.Deep.DrawnRows
import Derived.KernelRfl
import Derived.Great.Walk
import Derived.Test.YtdfijefgklhmdaaDoorOwn
namespace Go.Proofs.YtdfijefgklhmdaaDoor.T
open Go Go.RowKit Go.Sort Mem Own Go.ChangeShapes Go.WideShapes Go.Deep
set_option maxRecDepth 100000
set_option maxHeartbeats 1000000
set_option linter.unusedVariables false
set_option linter.unusedSimpArgs false

theorem cells3' : Tryd.prog.cellsOf 3 = 1 := by kernel_rfl
theorem bytes3 : Tryd.prog.bytesOf 3 = 8 := by kernel_rfl
section
variable {H : Type} {enc : TypeId × Value → H} {W : World}
theorem open_ints49 {base : Nat} {v : Value} {d : DataW H} {p : List MemPlace} (hv : Value.okWide Tryd.prog W .any base 49 v) (h : DataW.Trod enc Tryd.prog W 0 (fun _ => true) true 49 v d p) (hw : ∀ n ∈ d.weights Tryd.prog 49, n ≤ reachBytes) :
    ∃ A zs c, v = .slice A zs.length c ∧ RdI W A zs ∧ zs.length * 8 ≤ 140737488355000 := by
  obtain ⟨fuel, hf⟩ := h
  obtain ⟨A, n, c, rfl⟩ := okWide_slice Tryd.underlying49 hv
  have hf' : DataW.trod enc Tryd.prog W 0 (fun _ => true) true fuel 49 [.slice A n c] = some (d, p) := by simpa [Value.cells] using hf
  rcases open_ints Tryd.underlying49 Tryd.underlying3 cells3' hf' with ⟨hcs, -⟩ | ⟨a, len, cap, zs, hcs, -, hl, hm, hzl, hx, hcell, -⟩
  · simp at hcs
    obtain ⟨rfl, rfl, rfl⟩ := hcs
    exact ⟨none, [], 0, rfl, .inl rfl, by simp⟩
  · simp only [if_true] at hzl
    simp only [List.cons.injEq, Value.slice.injEq, and_true] at hcs
    obtain ⟨rfl, rfl, rfl⟩ := hcs
    have hd : d = .slice (lits .i64 (zs.take n)) (lits .i64 (zs.drop n)) := congrArg Prod.fst hx
    subst hd
    have hs := (slice_w Tryd.underlying49 hw).1
    rw [bytes3] at hs
    have htl : (zs.take n).length = n := by rw [List.length_take]; omega
    simp only [lits, List.length_map, htl] at hs
    have hrb : reachBytes ≤ 140737488355000 := by decide
    obtain ⟨b, off, spot⟩ := a
    refine ⟨some ⟨b, off, spot⟩, zs.take n, c, by rw [htl], ?_, by rw [htl]; omega⟩
    by_cases h0 : n = 0
    · exact .inl (List.eq_nil_of_length_eq_zero (by omega))
    have hc0 := hcell 0 (by omega)
    have hspot : spot = none := by
      simpa [Addr.add] using World.cell?_spot hc0
    subst hspot
    refine .inr ⟨b, off, rfl, fun i z hz => ?_⟩
    have hi : i < n := by have := (List.getElem?_eq_some_iff.1 hz).1; omega
    have := hcell i (by omega)
    rw [add_off] at this
    rw [this, List.getD_eq_getElem?_getD]
    rw [List.getElem?_take, if_pos hi] at hz
    rw [hz]; rfl
end
end Go.Proofs.YtdfijefgklhmdaaDoor.T
