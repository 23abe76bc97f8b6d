import Derived.Test.YtgakeclocbfnpaaDoorProg
import Derived.Test.YtgakeclocbfnpaaDoorShelf
import Derived.Test.YtgakeclocbfnpaaDoorMem
import Derived.Test.YtgakeclocbfnpaaDoorTa
import Derived.Test.YtgakeclocbfnpaaDoorTa2
import Derived.Test.YtgakeclocbfnpaaDoorTb
import Derived.Test.YtgakeclocbfnpaaDoorTc
import Derived.Test.YtgakeclocbfnpaaDoorTd
import Derived.Test.YtgakeclocbfnpaaDoorTe
import Derived.Test.YtgakeclocbfnpaaDoorTf
import Derived.Test.YtgakeclocbfnpaaDoorTg
import Derived.Test.YtgakeclocbfnpaaDoorTh
import Derived.Test.YtgakeclocbfnpaaDoorTi
import Derived.WalkKit
import Derived.Outline
import Derived.WalkLawsBesides
import Derived.Deep.QuietTactic
import Derived.BigQuiet
import Derived.Lib.Hide
import Derived.Handy
import Derived.Deep.RegionHeld3
import Derived.Deep.DrawnRows
import Derived.KernelRfl
import Derived.Great.Walk
import Derived.Test.YtgakeclocbfnpaaDoorOwn
namespace Go.Proofs.YtgakeclocbfnpaaDoor.T
open Go Go.RowKit Mem Own
set_option maxRecDepth 100000
set_option maxHeartbeats 1000000
set_option linter.unusedVariables false
set_option linter.unusedSimpArgs false

theorem fk_long {s : ByteArray} (h : 10 < s.size) : fk s = 47 := fk_none fun j hj e => by
  have h1 := names_small j hj
  have h2 := congrArg List.length e
  rw [up_len, up_len] at h2
  omega
theorem fk_cases (s : ByteArray) : (∃ k, k < 47 ∧ fk s = k) ∨ fk s = 47 := by
  rcases Nat.lt_or_eq_of_le (fk_le s) with h | h
  · exact .inl ⟨_, h, rfl⟩
  · exact .inr h
theorem tab_new2 (w : World) (o1 o2 : Obj) : Tab (((w.alloc o1).alloc o2).alloc (.cells cells 25)) (w.heap.size + 1 + 1) := by
  have := tab_new ((w.alloc o1).alloc o2)
  rwa [alloc_size, alloc_size] at this
theorem kept7 {w w1 : World} {b o : Nat} {v0 v1 v2 v3 v4 v5 v6 : Value} (hb : Below w.heap.size w w1)
    (h0 : w.cell? ⟨b, o, none⟩ = some v0) (h1 : w.cell? ⟨b, o + 1, none⟩ = some v1) (h2 : w.cell? ⟨b, o + 2, none⟩ = some v2) (h3 : w.cell? ⟨b, o + 3, none⟩ = some v3) (h4 : w.cell? ⟨b, o + 4, none⟩ = some v4) (h5 : w.cell? ⟨b, o + 5, none⟩ = some v5) (h6 : w.cell? ⟨b, o + 6, none⟩ = some v6) :
    w1.cell? ⟨b, o, none⟩ = some v0 ∧ w1.cell? ⟨b, o + 1, none⟩ = some v1 ∧ w1.cell? ⟨b, o + 2, none⟩ = some v2 ∧ w1.cell? ⟨b, o + 3, none⟩ = some v3 ∧ w1.cell? ⟨b, o + 4, none⟩ = some v4 ∧ w1.cell? ⟨b, o + 5, none⟩ = some v5 ∧ w1.cell? ⟨b, o + 6, none⟩ = some v6 :=
  ⟨cell_below hb h0, cell_below hb h1, cell_below hb h2, cell_below hb h3, cell_below hb h4, cell_below hb h5, cell_below hb h6⟩
/-- What a call leaves of a box of the caller's. -/
theorem box7 {w w1 : World} {o1 o3 : Obj} {v0 v1 v2 v3 v4 v5 v6 : Value} (hb : Below (((w.alloc o1).alloc (.cells #[v0, v1, v2, v3, v4, v5, v6] 25)).alloc o3).heap.size (((w.alloc o1).alloc (.cells #[v0, v1, v2, v3, v4, v5, v6] 25)).alloc o3) w1) :
    w1.heap[w.heap.size + 1]? = some (.cells #[v0, v1, v2, v3, v4, v5, v6] 25 (0, 0)) := by
  rw [hb.block _ (by simp)]
  have h1 := heap_alloc_new (w.alloc o1) (.cells #[v0, v1, v2, v3, v4, v5, v6] 25)
  rw [alloc_size] at h1
  rw [Below.heap_alloc _ _ _ (by simp)]; exact h1
theorem of_block {w : World} {b : Nat} {vs : Array Value} (h : w.heap[b]? = some (.cells vs 25 (0, 0))) (j : Nat) : w.cell? ⟨b, j, none⟩ = vs[j]? := by simp [World.cell?, h]
theorem of_block_free {w : World} {b : Nat} {vs : Array Value} (h : w.heap[b]? = some (.cells vs 25 (0, 0))) (j : Nat) : w.frozen? ⟨b, j, none⟩ = false := by simp [World.frozen?, h]
theorem facts7 {w : World} {b : Nat} {v0 v1 v2 v3 v4 v5 v6 : Value} (h : w.heap[b]? = some (.cells #[v0, v1, v2, v3, v4, v5, v6] 25 (0, 0))) :
    w.cell? ⟨b, 0, none⟩ = some v0 ∧ w.cell? ⟨b, 1, none⟩ = some v1 ∧ w.cell? ⟨b, 2, none⟩ = some v2 ∧ w.cell? ⟨b, 3, none⟩ = some v3 ∧ w.cell? ⟨b, 4, none⟩ = some v4 ∧ w.cell? ⟨b, 5, none⟩ = some v5 ∧ w.cell? ⟨b, 6, none⟩ = some v6 :=
  ⟨of_block h 0, of_block h 1, of_block h 2, of_block h 3, of_block h 4, of_block h 5, of_block h 6⟩
theorem free7 {w : World} {b : Nat} {v0 v1 v2 v3 v4 v5 v6 : Value} (h : w.heap[b]? = some (.cells #[v0, v1, v2, v3, v4, v5, v6] 25 (0, 0))) :
    w.frozen? ⟨b, 0, none⟩ = false ∧ w.frozen? ⟨b, 1, none⟩ = false ∧ w.frozen? ⟨b, 2, none⟩ = false ∧ w.frozen? ⟨b, 3, none⟩ = false ∧ w.frozen? ⟨b, 4, none⟩ = false ∧ w.frozen? ⟨b, 5, none⟩ = false ∧ w.frozen? ⟨b, 6, none⟩ = false :=
  ⟨of_block_free h 0, of_block_free h 1, of_block_free h 2, of_block_free h 3, of_block_free h 4, of_block_free h 5, of_block_free h 6⟩
theorem heap_set {w : World} {b i : Nat} {cs : Array Value} {T : TypeId} {fr : Nat × Nat} (hb : w.heap[b]? = some (.cells cs T fr)) (v : Value) :
    (w.setCell ⟨b, i, none⟩ v).heap[b]? = some (.cells (cs.setIfInBounds i v) T fr) := by
  simp [World.setCell, Array.getElem?_modify, hb]
/-- A struct of seven cells is written over. -/
theorem set7 {w : World} {b : Nat} {v0 v1 v2 v3 v4 v5 v6 : Value} (u0 u1 u2 u3 u4 u5 u6 : Value) (h : w.heap[b]? = some (.cells #[v0, v1, v2, v3, v4, v5, v6] 25 (0, 0))) :
    (((((((w.setCell ⟨b, 0, none⟩ u0).setCell ⟨b, 1, none⟩ u1).setCell ⟨b, 2, none⟩ u2).setCell ⟨b, 3, none⟩ u3).setCell ⟨b, 4, none⟩ u4).setCell ⟨b, 5, none⟩ u5).setCell ⟨b, 6, none⟩ u6).heap[b]? = some (.cells #[u0, u1, u2, u3, u4, u5, u6] 25 (0, 0)) := by
  have h1 := heap_set (i := 0) h u0
  have h2 := heap_set (i := 1) h1 u1
  have h3 := heap_set (i := 2) h2 u2
  have h4 := heap_set (i := 3) h3 u3
  have h5 := heap_set (i := 4) h4 u4
  have h6 := heap_set (i := 5) h5 u5
  have h7 := heap_set (i := 6) h6 u6
  simpa using h7
/-- The end of a function whose first result is a command's row in a cell of memory, the second one a slot. -/
theorem end7 {fn : Func} {R : Ending → World → Prop} {tmps : Array Value} {w : World} {b : Nat} {v0 v1 v2 v3 v4 v5 v6 u : Value} (hres : fn.results = #[ResultVar.cell 2 25, ResultVar.tmp 3])
    (h2 : tmps[2]?.getD undef = .pointer (some ⟨b, 0, none⟩)) (h3 : tmps[3]?.getD undef = u) (hb : w.heap[b]? = some (.cells #[v0, v1, v2, v3, v4, v5, v6] 25 (0, 0)))
    (hR : R (.returned (.tuple #[.agg #[v0, v1, v2, v3, v4, v5, v6], u])) w) : bodyPost Tryd.prog fn R .ret { tmps := tmps, defers := [] } w := by
  obtain ⟨g0, g1, g2, g3, g4, g5, g6⟩ := facts7 hb
  refine bodyPost_ret (v := .tuple #[.agg #[v0, v1, v2, v3, v4, v5, v6], u]) ?_ rfl hR
  simp [results, hres, go_sem, h2, h3, g0, g1, g2, g3, g4, g5, g6]
theorem below_a3 {w w1 : World} {o1 o2 o3 : Obj} (hb : Below (((w.alloc o1).alloc o2).alloc o3).heap.size (((w.alloc o1).alloc o2).alloc o3) w1) : Below w.heap.size w w1 := by
  refine Below.trans ?_ (hb.mono (by simp; omega))
  exact (((Below.refl _ _).alloc (Nat.le_refl _) _).alloc (by simp) _).alloc (by simp; omega) _
theorem below_s7 {B b : Nat} {w w1 : World} {u0 u1 u2 u3 u4 u5 u6 : Value} (h : Below B w w1) (hb : B ≤ b) :
    Below B w (((((((w1.setCell ⟨b, 0, none⟩ u0).setCell ⟨b, 1, none⟩ u1).setCell ⟨b, 2, none⟩ u2).setCell ⟨b, 3, none⟩ u3).setCell ⟨b, 4, none⟩ u4).setCell ⟨b, 5, none⟩ u5).setCell ⟨b, 6, none⟩ u6) :=
  ((((((h.setCell hb _).setCell hb _).setCell hb _).setCell hb _).setCell hb _).setCell hb _).setCell hb _
end Go.Proofs.YtgakeclocbfnpaaDoor.T
