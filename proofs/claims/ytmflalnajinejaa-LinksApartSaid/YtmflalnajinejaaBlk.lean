/- Blocks known whole: plainly, with no program in sight. -/
import Derived.WalkKit
import Derived.WalkLawsBesides
import Derived.Lib.Hide
import Derived.Handy
import Derived.Laws.OwnMore
import Derived.Deep.RegionHeld
import Derived.Test.YtmflalnajinejaaMem
namespace Go.Proofs.Ytmflalnajinejaa.Own
open Go Go.RowKit Mem
theorem alloc_sz (w : World) (o : Obj) : (w.alloc o).heap.size = w.heap.size + 1 := by show (w.heap.push o).size = _; simp
set_option linter.unusedVariables false
set_option linter.unusedSimpArgs false

theorem of_blk {w : World} {b T : Nat} {vs : Array Value} (h : w.heap[b]? = some (.cells vs T (0, 0))) (j : Nat) : w.cell? ⟨b, j, none⟩ = vs[j]? := by simp [World.cell?, h]
theorem of_blk_free {w : World} {b T : Nat} {vs : Array Value} (h : w.heap[b]? = some (.cells vs T (0, 0))) (j : Nat) : w.frozen? ⟨b, j, none⟩ = false := by simp [World.frozen?, h]
theorem lt_of_blk {w : World} {b : Nat} {o : Obj} (h : w.heap[b]? = some o) : b < w.heap.size := (Array.getElem?_eq_some_iff.1 h).1
theorem keep_blk {w w1 : World} {b : Nat} {o : Obj} (hb : Below w.heap.size w w1) (h : w.heap[b]? = some o) : w1.heap[b]? = some o := by
  rw [hb.block b (lt_of_blk h)]; exact h
theorem blk_new {w : World} {b : Nat} {o : Obj} (h : w.heap[b]? = some o) (o' : Obj) : (w.alloc o').heap[b]? = some o := keep_blk ((Below.refl _ _).alloc (Nat.le_refl _) _) h
theorem blk_set {w : World} {b i : Nat} {cs : Array Value} {T : TypeId} {fr : Nat × Nat} (hb : w.heap[b]? = some (.cells cs T fr)) (v : Value) :
    (w.setCell ⟨b, i, none⟩ v).heap[b]? = some (.cells (cs.setIfInBounds i v) T fr) := by
  simp [World.setCell, Array.getElem?_modify, hb]
theorem blk_off {w : World} {b i k : Nat} {v : Value} {o : Obj} (hne : k ≠ b) (h : w.heap[k]? = some o) : (w.setCell ⟨b, i, none⟩ v).heap[k]? = some o := by
  rw [Below.heap_setCell _ _ _ _ hne]; exact h
theorem cells1 {w : World} {b T : Nat} {v0 : Value} (h : w.heap[b]? = some (.cells #[v0] T (0, 0))) :
    w.cell? ⟨b, 0, none⟩ = some v0 := of_blk h 0
theorem frees1 {w : World} {b T : Nat} {v0 : Value} (h : w.heap[b]? = some (.cells #[v0] T (0, 0))) :
    w.frozen? ⟨b, 0, none⟩ = false := of_blk_free h 0
theorem sets1 {w : World} {b T : Nat} {v0 : Value} (u0 : Value) (h : w.heap[b]? = some (.cells #[v0] T (0, 0))) :
    (w.setCell ⟨b, 0, none⟩ u0).heap[b]? = some (.cells #[u0] T (0, 0)) := by
  have h1 := blk_set (i := 0) h u0
  simpa using h1
theorem below_sets1 {B b : Nat} {w0 w : World} {u0 : Value} (h : Below B w0 w) (hb : B ≤ b) : Below B w0 (w.setCell ⟨b, 0, none⟩ u0) :=
  (h.setCell hb _)
theorem blk_sets1 {b k : Nat} {w : World} {o : Obj} {u0 : Value} (h : w.heap[k]? = some o) (hne : k ≠ b) : (w.setCell ⟨b, 0, none⟩ u0).heap[k]? = some o :=
  (blk_off hne h)
theorem cells2 {w : World} {b T : Nat} {v0 v1 : Value} (h : w.heap[b]? = some (.cells #[v0, v1] T (0, 0))) :
    w.cell? ⟨b, 0, none⟩ = some v0 ∧ w.cell? ⟨b, 1, none⟩ = some v1 := ⟨of_blk h 0, of_blk h 1⟩
theorem frees2 {w : World} {b T : Nat} {v0 v1 : Value} (h : w.heap[b]? = some (.cells #[v0, v1] T (0, 0))) :
    w.frozen? ⟨b, 0, none⟩ = false ∧ w.frozen? ⟨b, 1, none⟩ = false := ⟨of_blk_free h 0, of_blk_free h 1⟩
theorem sets2 {w : World} {b T : Nat} {v0 v1 : Value} (u0 u1 : Value) (h : w.heap[b]? = some (.cells #[v0, v1] T (0, 0))) :
    ((w.setCell ⟨b, 0, none⟩ u0).setCell ⟨b, 1, none⟩ u1).heap[b]? = some (.cells #[u0, u1] T (0, 0)) := by
  have h1 := blk_set (i := 0) h u0
  have h2 := blk_set (i := 1) h1 u1
  simpa using h2
theorem below_sets2 {B b : Nat} {w0 w : World} {u0 u1 : Value} (h : Below B w0 w) (hb : B ≤ b) : Below B w0 ((w.setCell ⟨b, 0, none⟩ u0).setCell ⟨b, 1, none⟩ u1) :=
  ((h.setCell hb _).setCell hb _)
theorem blk_sets2 {b k : Nat} {w : World} {o : Obj} {u0 u1 : Value} (h : w.heap[k]? = some o) (hne : k ≠ b) : ((w.setCell ⟨b, 0, none⟩ u0).setCell ⟨b, 1, none⟩ u1).heap[k]? = some o :=
  (blk_off hne (blk_off hne h))
theorem cells3 {w : World} {b T : Nat} {v0 v1 v2 : Value} (h : w.heap[b]? = some (.cells #[v0, v1, v2] T (0, 0))) :
    w.cell? ⟨b, 0, none⟩ = some v0 ∧ w.cell? ⟨b, 1, none⟩ = some v1 ∧ w.cell? ⟨b, 2, none⟩ = some v2 := ⟨of_blk h 0, of_blk h 1, of_blk h 2⟩
theorem frees3 {w : World} {b T : Nat} {v0 v1 v2 : Value} (h : w.heap[b]? = some (.cells #[v0, v1, v2] T (0, 0))) :
    w.frozen? ⟨b, 0, none⟩ = false ∧ w.frozen? ⟨b, 1, none⟩ = false ∧ w.frozen? ⟨b, 2, none⟩ = false := ⟨of_blk_free h 0, of_blk_free h 1, of_blk_free h 2⟩
theorem sets3 {w : World} {b T : Nat} {v0 v1 v2 : Value} (u0 u1 u2 : Value) (h : w.heap[b]? = some (.cells #[v0, v1, v2] T (0, 0))) :
    (((w.setCell ⟨b, 0, none⟩ u0).setCell ⟨b, 1, none⟩ u1).setCell ⟨b, 2, none⟩ u2).heap[b]? = some (.cells #[u0, u1, u2] T (0, 0)) := by
  have h1 := blk_set (i := 0) h u0
  have h2 := blk_set (i := 1) h1 u1
  have h3 := blk_set (i := 2) h2 u2
  simpa using h3
theorem below_sets3 {B b : Nat} {w0 w : World} {u0 u1 u2 : Value} (h : Below B w0 w) (hb : B ≤ b) : Below B w0 (((w.setCell ⟨b, 0, none⟩ u0).setCell ⟨b, 1, none⟩ u1).setCell ⟨b, 2, none⟩ u2) :=
  (((h.setCell hb _).setCell hb _).setCell hb _)
theorem blk_sets3 {b k : Nat} {w : World} {o : Obj} {u0 u1 u2 : Value} (h : w.heap[k]? = some o) (hne : k ≠ b) : (((w.setCell ⟨b, 0, none⟩ u0).setCell ⟨b, 1, none⟩ u1).setCell ⟨b, 2, none⟩ u2).heap[k]? = some o :=
  (blk_off hne (blk_off hne (blk_off hne h)))
theorem cells4 {w : World} {b T : Nat} {v0 v1 v2 v3 : Value} (h : w.heap[b]? = some (.cells #[v0, v1, v2, v3] T (0, 0))) :
    w.cell? ⟨b, 0, none⟩ = some v0 ∧ w.cell? ⟨b, 1, none⟩ = some v1 ∧ w.cell? ⟨b, 2, none⟩ = some v2 ∧ w.cell? ⟨b, 3, none⟩ = some v3 := ⟨of_blk h 0, of_blk h 1, of_blk h 2, of_blk h 3⟩
theorem frees4 {w : World} {b T : Nat} {v0 v1 v2 v3 : Value} (h : w.heap[b]? = some (.cells #[v0, v1, v2, v3] T (0, 0))) :
    w.frozen? ⟨b, 0, none⟩ = false ∧ w.frozen? ⟨b, 1, none⟩ = false ∧ w.frozen? ⟨b, 2, none⟩ = false ∧ w.frozen? ⟨b, 3, none⟩ = false := ⟨of_blk_free h 0, of_blk_free h 1, of_blk_free h 2, of_blk_free h 3⟩
theorem sets4 {w : World} {b T : Nat} {v0 v1 v2 v3 : Value} (u0 u1 u2 u3 : Value) (h : w.heap[b]? = some (.cells #[v0, v1, v2, v3] T (0, 0))) :
    ((((w.setCell ⟨b, 0, none⟩ u0).setCell ⟨b, 1, none⟩ u1).setCell ⟨b, 2, none⟩ u2).setCell ⟨b, 3, none⟩ u3).heap[b]? = some (.cells #[u0, u1, u2, u3] T (0, 0)) := by
  have h1 := blk_set (i := 0) h u0
  have h2 := blk_set (i := 1) h1 u1
  have h3 := blk_set (i := 2) h2 u2
  have h4 := blk_set (i := 3) h3 u3
  simpa using h4
theorem below_sets4 {B b : Nat} {w0 w : World} {u0 u1 u2 u3 : Value} (h : Below B w0 w) (hb : B ≤ b) : Below B w0 ((((w.setCell ⟨b, 0, none⟩ u0).setCell ⟨b, 1, none⟩ u1).setCell ⟨b, 2, none⟩ u2).setCell ⟨b, 3, none⟩ u3) :=
  ((((h.setCell hb _).setCell hb _).setCell hb _).setCell hb _)
theorem blk_sets4 {b k : Nat} {w : World} {o : Obj} {u0 u1 u2 u3 : Value} (h : w.heap[k]? = some o) (hne : k ≠ b) : ((((w.setCell ⟨b, 0, none⟩ u0).setCell ⟨b, 1, none⟩ u1).setCell ⟨b, 2, none⟩ u2).setCell ⟨b, 3, none⟩ u3).heap[k]? = some o :=
  (blk_off hne (blk_off hne (blk_off hne (blk_off hne h))))
theorem cells5 {w : World} {b T : Nat} {v0 v1 v2 v3 v4 : Value} (h : w.heap[b]? = some (.cells #[v0, v1, v2, v3, v4] T (0, 0))) :
    w.cell? ⟨b, 0, none⟩ = some v0 ∧ w.cell? ⟨b, 1, none⟩ = some v1 ∧ w.cell? ⟨b, 2, none⟩ = some v2 ∧ w.cell? ⟨b, 3, none⟩ = some v3 ∧ w.cell? ⟨b, 4, none⟩ = some v4 := ⟨of_blk h 0, of_blk h 1, of_blk h 2, of_blk h 3, of_blk h 4⟩
theorem frees5 {w : World} {b T : Nat} {v0 v1 v2 v3 v4 : Value} (h : w.heap[b]? = some (.cells #[v0, v1, v2, v3, v4] T (0, 0))) :
    w.frozen? ⟨b, 0, none⟩ = false ∧ w.frozen? ⟨b, 1, none⟩ = false ∧ w.frozen? ⟨b, 2, none⟩ = false ∧ w.frozen? ⟨b, 3, none⟩ = false ∧ w.frozen? ⟨b, 4, none⟩ = false := ⟨of_blk_free h 0, of_blk_free h 1, of_blk_free h 2, of_blk_free h 3, of_blk_free h 4⟩
theorem sets5 {w : World} {b T : Nat} {v0 v1 v2 v3 v4 : Value} (u0 u1 u2 u3 u4 : Value) (h : w.heap[b]? = some (.cells #[v0, v1, v2, v3, v4] T (0, 0))) :
    (((((w.setCell ⟨b, 0, none⟩ u0).setCell ⟨b, 1, none⟩ u1).setCell ⟨b, 2, none⟩ u2).setCell ⟨b, 3, none⟩ u3).setCell ⟨b, 4, none⟩ u4).heap[b]? = some (.cells #[u0, u1, u2, u3, u4] T (0, 0)) := by
  have h1 := blk_set (i := 0) h u0
  have h2 := blk_set (i := 1) h1 u1
  have h3 := blk_set (i := 2) h2 u2
  have h4 := blk_set (i := 3) h3 u3
  have h5 := blk_set (i := 4) h4 u4
  simpa using h5
theorem below_sets5 {B b : Nat} {w0 w : World} {u0 u1 u2 u3 u4 : Value} (h : Below B w0 w) (hb : B ≤ b) : Below B w0 (((((w.setCell ⟨b, 0, none⟩ u0).setCell ⟨b, 1, none⟩ u1).setCell ⟨b, 2, none⟩ u2).setCell ⟨b, 3, none⟩ u3).setCell ⟨b, 4, none⟩ u4) :=
  (((((h.setCell hb _).setCell hb _).setCell hb _).setCell hb _).setCell hb _)
theorem blk_sets5 {b k : Nat} {w : World} {o : Obj} {u0 u1 u2 u3 u4 : Value} (h : w.heap[k]? = some o) (hne : k ≠ b) : (((((w.setCell ⟨b, 0, none⟩ u0).setCell ⟨b, 1, none⟩ u1).setCell ⟨b, 2, none⟩ u2).setCell ⟨b, 3, none⟩ u3).setCell ⟨b, 4, none⟩ u4).heap[k]? = some o :=
  (blk_off hne (blk_off hne (blk_off hne (blk_off hne (blk_off hne h)))))
theorem cells6 {w : World} {b T : Nat} {v0 v1 v2 v3 v4 v5 : Value} (h : w.heap[b]? = some (.cells #[v0, v1, v2, v3, v4, v5] T (0, 0))) :
    w.cell? ⟨b, 0, none⟩ = some v0 ∧ w.cell? ⟨b, 1, none⟩ = some v1 ∧ w.cell? ⟨b, 2, none⟩ = some v2 ∧ w.cell? ⟨b, 3, none⟩ = some v3 ∧ w.cell? ⟨b, 4, none⟩ = some v4 ∧ w.cell? ⟨b, 5, none⟩ = some v5 := ⟨of_blk h 0, of_blk h 1, of_blk h 2, of_blk h 3, of_blk h 4, of_blk h 5⟩
theorem frees6 {w : World} {b T : Nat} {v0 v1 v2 v3 v4 v5 : Value} (h : w.heap[b]? = some (.cells #[v0, v1, v2, v3, v4, v5] T (0, 0))) :
    w.frozen? ⟨b, 0, none⟩ = false ∧ w.frozen? ⟨b, 1, none⟩ = false ∧ w.frozen? ⟨b, 2, none⟩ = false ∧ w.frozen? ⟨b, 3, none⟩ = false ∧ w.frozen? ⟨b, 4, none⟩ = false ∧ w.frozen? ⟨b, 5, none⟩ = false := ⟨of_blk_free h 0, of_blk_free h 1, of_blk_free h 2, of_blk_free h 3, of_blk_free h 4, of_blk_free h 5⟩
theorem sets6 {w : World} {b T : Nat} {v0 v1 v2 v3 v4 v5 : Value} (u0 u1 u2 u3 u4 u5 : Value) (h : w.heap[b]? = some (.cells #[v0, v1, v2, v3, v4, v5] T (0, 0))) :
    ((((((w.setCell ⟨b, 0, none⟩ u0).setCell ⟨b, 1, none⟩ u1).setCell ⟨b, 2, none⟩ u2).setCell ⟨b, 3, none⟩ u3).setCell ⟨b, 4, none⟩ u4).setCell ⟨b, 5, none⟩ u5).heap[b]? = some (.cells #[u0, u1, u2, u3, u4, u5] T (0, 0)) := by
  have h1 := blk_set (i := 0) h u0
  have h2 := blk_set (i := 1) h1 u1
  have h3 := blk_set (i := 2) h2 u2
  have h4 := blk_set (i := 3) h3 u3
  have h5 := blk_set (i := 4) h4 u4
  have h6 := blk_set (i := 5) h5 u5
  simpa using h6
theorem below_sets6 {B b : Nat} {w0 w : World} {u0 u1 u2 u3 u4 u5 : Value} (h : Below B w0 w) (hb : B ≤ b) : Below B w0 ((((((w.setCell ⟨b, 0, none⟩ u0).setCell ⟨b, 1, none⟩ u1).setCell ⟨b, 2, none⟩ u2).setCell ⟨b, 3, none⟩ u3).setCell ⟨b, 4, none⟩ u4).setCell ⟨b, 5, none⟩ u5) :=
  ((((((h.setCell hb _).setCell hb _).setCell hb _).setCell hb _).setCell hb _).setCell hb _)
theorem blk_sets6 {b k : Nat} {w : World} {o : Obj} {u0 u1 u2 u3 u4 u5 : Value} (h : w.heap[k]? = some o) (hne : k ≠ b) : ((((((w.setCell ⟨b, 0, none⟩ u0).setCell ⟨b, 1, none⟩ u1).setCell ⟨b, 2, none⟩ u2).setCell ⟨b, 3, none⟩ u3).setCell ⟨b, 4, none⟩ u4).setCell ⟨b, 5, none⟩ u5).heap[k]? = some o :=
  (blk_off hne (blk_off hne (blk_off hne (blk_off hne (blk_off hne (blk_off hne h))))))
theorem cells7 {w : World} {b T : Nat} {v0 v1 v2 v3 v4 v5 v6 : Value} (h : w.heap[b]? = some (.cells #[v0, v1, v2, v3, v4, v5, v6] T (0, 0))) :
    w.cell? ⟨b, 0, none⟩ = some v0 ∧ w.cell? ⟨b, 1, none⟩ = some v1 ∧ w.cell? ⟨b, 2, none⟩ = some v2 ∧ w.cell? ⟨b, 3, none⟩ = some v3 ∧ w.cell? ⟨b, 4, none⟩ = some v4 ∧ w.cell? ⟨b, 5, none⟩ = some v5 ∧ w.cell? ⟨b, 6, none⟩ = some v6 := ⟨of_blk h 0, of_blk h 1, of_blk h 2, of_blk h 3, of_blk h 4, of_blk h 5, of_blk h 6⟩
theorem frees7 {w : World} {b T : Nat} {v0 v1 v2 v3 v4 v5 v6 : Value} (h : w.heap[b]? = some (.cells #[v0, v1, v2, v3, v4, v5, v6] T (0, 0))) :
    w.frozen? ⟨b, 0, none⟩ = false ∧ w.frozen? ⟨b, 1, none⟩ = false ∧ w.frozen? ⟨b, 2, none⟩ = false ∧ w.frozen? ⟨b, 3, none⟩ = false ∧ w.frozen? ⟨b, 4, none⟩ = false ∧ w.frozen? ⟨b, 5, none⟩ = false ∧ w.frozen? ⟨b, 6, none⟩ = false := ⟨of_blk_free h 0, of_blk_free h 1, of_blk_free h 2, of_blk_free h 3, of_blk_free h 4, of_blk_free h 5, of_blk_free h 6⟩
theorem sets7 {w : World} {b T : Nat} {v0 v1 v2 v3 v4 v5 v6 : Value} (u0 u1 u2 u3 u4 u5 u6 : Value) (h : w.heap[b]? = some (.cells #[v0, v1, v2, v3, v4, v5, v6] T (0, 0))) :
    (((((((w.setCell ⟨b, 0, none⟩ u0).setCell ⟨b, 1, none⟩ u1).setCell ⟨b, 2, none⟩ u2).setCell ⟨b, 3, none⟩ u3).setCell ⟨b, 4, none⟩ u4).setCell ⟨b, 5, none⟩ u5).setCell ⟨b, 6, none⟩ u6).heap[b]? = some (.cells #[u0, u1, u2, u3, u4, u5, u6] T (0, 0)) := by
  have h1 := blk_set (i := 0) h u0
  have h2 := blk_set (i := 1) h1 u1
  have h3 := blk_set (i := 2) h2 u2
  have h4 := blk_set (i := 3) h3 u3
  have h5 := blk_set (i := 4) h4 u4
  have h6 := blk_set (i := 5) h5 u5
  have h7 := blk_set (i := 6) h6 u6
  simpa using h7
theorem below_sets7 {B b : Nat} {w0 w : World} {u0 u1 u2 u3 u4 u5 u6 : Value} (h : Below B w0 w) (hb : B ≤ b) : Below B w0 (((((((w.setCell ⟨b, 0, none⟩ u0).setCell ⟨b, 1, none⟩ u1).setCell ⟨b, 2, none⟩ u2).setCell ⟨b, 3, none⟩ u3).setCell ⟨b, 4, none⟩ u4).setCell ⟨b, 5, none⟩ u5).setCell ⟨b, 6, none⟩ u6) :=
  (((((((h.setCell hb _).setCell hb _).setCell hb _).setCell hb _).setCell hb _).setCell hb _).setCell hb _)
theorem blk_sets7 {b k : Nat} {w : World} {o : Obj} {u0 u1 u2 u3 u4 u5 u6 : Value} (h : w.heap[k]? = some o) (hne : k ≠ b) : (((((((w.setCell ⟨b, 0, none⟩ u0).setCell ⟨b, 1, none⟩ u1).setCell ⟨b, 2, none⟩ u2).setCell ⟨b, 3, none⟩ u3).setCell ⟨b, 4, none⟩ u4).setCell ⟨b, 5, none⟩ u5).setCell ⟨b, 6, none⟩ u6).heap[k]? = some o :=
  (blk_off hne (blk_off hne (blk_off hne (blk_off hne (blk_off hne (blk_off hne (blk_off hne h)))))))
theorem cells8 {w : World} {b T : Nat} {v0 v1 v2 v3 v4 v5 v6 v7 : Value} (h : w.heap[b]? = some (.cells #[v0, v1, v2, v3, v4, v5, v6, v7] T (0, 0))) :
    w.cell? ⟨b, 0, none⟩ = some v0 ∧ w.cell? ⟨b, 1, none⟩ = some v1 ∧ w.cell? ⟨b, 2, none⟩ = some v2 ∧ w.cell? ⟨b, 3, none⟩ = some v3 ∧ w.cell? ⟨b, 4, none⟩ = some v4 ∧ w.cell? ⟨b, 5, none⟩ = some v5 ∧ w.cell? ⟨b, 6, none⟩ = some v6 ∧ w.cell? ⟨b, 7, none⟩ = some v7 := ⟨of_blk h 0, of_blk h 1, of_blk h 2, of_blk h 3, of_blk h 4, of_blk h 5, of_blk h 6, of_blk h 7⟩
theorem frees8 {w : World} {b T : Nat} {v0 v1 v2 v3 v4 v5 v6 v7 : Value} (h : w.heap[b]? = some (.cells #[v0, v1, v2, v3, v4, v5, v6, v7] T (0, 0))) :
    w.frozen? ⟨b, 0, none⟩ = false ∧ w.frozen? ⟨b, 1, none⟩ = false ∧ w.frozen? ⟨b, 2, none⟩ = false ∧ w.frozen? ⟨b, 3, none⟩ = false ∧ w.frozen? ⟨b, 4, none⟩ = false ∧ w.frozen? ⟨b, 5, none⟩ = false ∧ w.frozen? ⟨b, 6, none⟩ = false ∧ w.frozen? ⟨b, 7, none⟩ = false := ⟨of_blk_free h 0, of_blk_free h 1, of_blk_free h 2, of_blk_free h 3, of_blk_free h 4, of_blk_free h 5, of_blk_free h 6, of_blk_free h 7⟩
theorem sets8 {w : World} {b T : Nat} {v0 v1 v2 v3 v4 v5 v6 v7 : Value} (u0 u1 u2 u3 u4 u5 u6 u7 : Value) (h : w.heap[b]? = some (.cells #[v0, v1, v2, v3, v4, v5, v6, v7] T (0, 0))) :
    ((((((((w.setCell ⟨b, 0, none⟩ u0).setCell ⟨b, 1, none⟩ u1).setCell ⟨b, 2, none⟩ u2).setCell ⟨b, 3, none⟩ u3).setCell ⟨b, 4, none⟩ u4).setCell ⟨b, 5, none⟩ u5).setCell ⟨b, 6, none⟩ u6).setCell ⟨b, 7, none⟩ u7).heap[b]? = some (.cells #[u0, u1, u2, u3, u4, u5, u6, u7] T (0, 0)) := by
  have h1 := blk_set (i := 0) h u0
  have h2 := blk_set (i := 1) h1 u1
  have h3 := blk_set (i := 2) h2 u2
  have h4 := blk_set (i := 3) h3 u3
  have h5 := blk_set (i := 4) h4 u4
  have h6 := blk_set (i := 5) h5 u5
  have h7 := blk_set (i := 6) h6 u6
  have h8 := blk_set (i := 7) h7 u7
  simpa using h8
theorem below_sets8 {B b : Nat} {w0 w : World} {u0 u1 u2 u3 u4 u5 u6 u7 : Value} (h : Below B w0 w) (hb : B ≤ b) : Below B w0 ((((((((w.setCell ⟨b, 0, none⟩ u0).setCell ⟨b, 1, none⟩ u1).setCell ⟨b, 2, none⟩ u2).setCell ⟨b, 3, none⟩ u3).setCell ⟨b, 4, none⟩ u4).setCell ⟨b, 5, none⟩ u5).setCell ⟨b, 6, none⟩ u6).setCell ⟨b, 7, none⟩ u7) :=
  ((((((((h.setCell hb _).setCell hb _).setCell hb _).setCell hb _).setCell hb _).setCell hb _).setCell hb _).setCell hb _)
theorem blk_sets8 {b k : Nat} {w : World} {o : Obj} {u0 u1 u2 u3 u4 u5 u6 u7 : Value} (h : w.heap[k]? = some o) (hne : k ≠ b) : ((((((((w.setCell ⟨b, 0, none⟩ u0).setCell ⟨b, 1, none⟩ u1).setCell ⟨b, 2, none⟩ u2).setCell ⟨b, 3, none⟩ u3).setCell ⟨b, 4, none⟩ u4).setCell ⟨b, 5, none⟩ u5).setCell ⟨b, 6, none⟩ u6).setCell ⟨b, 7, none⟩ u7).heap[k]? = some o :=
  (blk_off hne (blk_off hne (blk_off hne (blk_off hne (blk_off hne (blk_off hne (blk_off hne (blk_off hne h))))))))
theorem own_bl {w w1 : World} {T : TypeId} {sz Bk n : Nat} {v : Value} {xs : List Value} (h : w.ownsRow Bk T sz v n xs) (hb : Below w.heap.size w w1) : w1.ownsRow Bk T sz v n xs := by
  refine ⟨h.1, ?_⟩
  rcases h.2 with e | ⟨g, cap, cur, e, h1, h2, h3⟩
  · exact .inl e
  · exact .inr ⟨g, cap, cur, e, h1, by rw [hb.block g (Array.getElem?_eq_some_iff.1 h2).1]; exact h2, h3⟩
theorem own_mn {w : World} {base base' : Nat} {T : TypeId} {sz : Nat} {v : Value} {n : Nat} {xs : List Value} (h : w.ownsRow base T sz v n xs) (hb : base' ≤ base) : w.ownsRow base' T sz v n xs := by
  refine ⟨h.1, ?_⟩
  rcases h.2 with e | ⟨g, cap, cur, e, h1, h2⟩
  · exact .inl e
  · exact .inr ⟨g, cap, cur, e, Nat.le_trans hb h1, h2⟩
theorem set_sz (w : World) (a : Addr) (v : Value) : (w.setCell a v).heap.size = w.heap.size := by simp [World.setCell]
theorem drew_sz (w : World) : w.drew.heap.size = w.heap.size := rfl
theorem set_only (w : World) (g i : Nat) (v : Value) : w.grownBy (w.setCell ⟨g, i, none⟩ v) (some g) :=
  ⟨rfl, rfl, rfl, by rw [set_sz]; exact Nat.le_refl _, fun k hk hne => Below.heap_setCell _ _ _ _ (fun e => hne (by rw [e]))⟩
theorem own_st {w : World} {T : TypeId} {sz B n b i : Nat} {v u : Value} {xs : List Value} (h : w.ownsRow B T sz v n xs) (hb : b < B) : (w.setCell ⟨b, i, none⟩ u).ownsRow B T sz v n xs :=
  h.kept (set_only w b i u) (by
    cases hv : v.ownBlock with
    | none => exact .inl rfl
    | some k => right; intro e; injection e with e; have := (h.lt k hv).1; omega)
/-- A block below a row of the call's own stands while the row is appended to. -/
theorem own_stay {wr wa w1 : World} {B n sz k : Nat} {T : TypeId} {v : Value} {xs : List Value} {o' : Obj} (ho : wr.ownsRow B T sz v n xs) (hg : wa.grownBy w1 v.ownBlock) (hk : wa.heap[k]? = some o') (hlt : k < B) : w1.heap[k]? = some o' := by
  rw [hg.block k (lt_of_blk hk) (fun e => by have := (ho.lt k e.symm).1; omega)]
  exact hk
theorem cell_off {w : World} {b i : Nat} {u v : Value} {a : Addr} (h : w.cell? a = some v) (hne : a.block ≠ b) : (w.setCell ⟨b, i, none⟩ u).cell? a = some v := by
  rw [World.cell?_setCell_far _ _ _ _ (fun e => hne e.symm)]; exact h
theorem addr_add (b off j : Nat) : (⟨b, off, none⟩ : Addr).add j = ⟨b, off + j, none⟩ := by
  by_cases h : j = 0
  · subst h; simp [Addr.add]
  · simp [Addr.add, h]
theorem new3 (w : World) (c2 c3 c4 : Array Value) (t2 t3 t4 : TypeId) : (((w.alloc (.cells c2 t2)).alloc (.cells c3 t3)).alloc (.cells c4 t4)).heap[w.heap.size]? = some (.cells c2 t2 (0, 0)) ∧ (((w.alloc (.cells c2 t2)).alloc (.cells c3 t3)).alloc (.cells c4 t4)).heap[w.heap.size + 1]? = some (.cells c3 t3 (0, 0)) ∧ (((w.alloc (.cells c2 t2)).alloc (.cells c3 t3)).alloc (.cells c4 t4)).heap[w.heap.size + 1 + 1]? = some (.cells c4 t4 (0, 0)) ∧ Below w.heap.size w (((w.alloc (.cells c2 t2)).alloc (.cells c3 t3)).alloc (.cells c4 t4)) := by
  have s1 : (w.alloc (.cells c2 t2)).heap.size = w.heap.size + 1 := alloc_sz _ _
  have s2 : ((w.alloc (.cells c2 t2)).alloc (.cells c3 t3)).heap.size = w.heap.size + 1 + 1 := by rw [alloc_sz, s1]
  have h1 := heap_alloc_new w (.cells c2 t2)
  have h2 := heap_alloc_new (w.alloc (.cells c2 t2)) (.cells c3 t3)
  have h3 := heap_alloc_new ((w.alloc (.cells c2 t2)).alloc (.cells c3 t3)) (.cells c4 t4)
  rw [s1] at h2; rw [s2] at h3
  exact ⟨blk_new (blk_new h1 _) _, blk_new h2 _, h3, (((Below.refl _ _).alloc (Nat.le_refl _) _).alloc (by rw [s1]; omega) _).alloc (by rw [s2]; omega) _⟩
theorem new2 (w : World) (c2 c3 : Array Value) (t2 t3 : TypeId) : ((w.alloc (.cells c2 t2)).alloc (.cells c3 t3)).heap[w.heap.size]? = some (.cells c2 t2 (0, 0)) ∧ ((w.alloc (.cells c2 t2)).alloc (.cells c3 t3)).heap[w.heap.size + 1]? = some (.cells c3 t3 (0, 0)) ∧ Below w.heap.size w ((w.alloc (.cells c2 t2)).alloc (.cells c3 t3)) := by
  have s1 : (w.alloc (.cells c2 t2)).heap.size = w.heap.size + 1 := alloc_sz _ _
  have h1 := heap_alloc_new w (.cells c2 t2)
  have h2 := heap_alloc_new (w.alloc (.cells c2 t2)) (.cells c3 t3)
  rw [s1] at h2
  exact ⟨blk_new h1 _, h2, ((Below.refl _ _).alloc (Nat.le_refl _) _).alloc (by rw [s1]; omega) _⟩
theorem new1 (w : World) (c2 : Array Value) (t2 : TypeId) : (w.alloc (.cells c2 t2)).heap[w.heap.size]? = some (.cells c2 t2 (0, 0)) ∧ Below w.heap.size w (w.alloc (.cells c2 t2)) :=
  ⟨heap_alloc_new _ _, (Below.refl _ _).alloc (Nat.le_refl _) _⟩
end Go.Proofs.Ytmflalnajinejaa.Own
