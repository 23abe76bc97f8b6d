/- One element taken out of a row of one's own: plainly, with no program in sight. -/
import Derived.Lib.SliceRun
import Derived.Lib.SlicesDelete
import Derived.WalkKit
import Derived.Lib.Hide
import Derived.Handy
import Derived.Test.YtfdcacjfngjmdaaDoorMem
import Derived.Test.YtfdcacjfngjmdaaDoorBlk
namespace Go.Proofs.YtfdcacjfngjmdaaDoor.Own
open Go Go.RowKit Mem
set_option linter.unusedVariables false
set_option linter.unusedSimpArgs false
set_option maxRecDepth 100000
theorem sets_blk : ∀ (vs : List Value) (o : Nat) {w : World} {b T : Nat} {cs : Array Value}, w.heap[b]? = some (.cells cs T (0, 0)) → (w.setCells b o vs).heap[b]? = some (.cells (Lib.lay cs o vs) T (0, 0))
  | [], o, w, b, T, cs, h => h
  | v :: r, o, w, b, T, cs, h => by
    rw [World.setCells, Lib.lay]
    exact sets_blk r (o + 1) (blk_set h v)
theorem sets_far {b k : Nat} (hk : k ≠ b) : ∀ (vs : List Value) (o : Nat) (w : World), (w.setCells b o vs).heap[k]? = w.heap[k]?
  | [], o, w => rfl
  | v :: r, o, w => by rw [World.setCells, sets_far hk r (o + 1), Below.heap_setCell _ _ _ _ hk]
theorem sets_below {B b : Nat} (hb : B ≤ b) : ∀ (vs : List Value) (o : Nat) (w : World), Below B w (w.setCells b o vs)
  | [], o, w => Below.refl _ _
  | v :: r, o, w => by
    rw [World.setCells]
    exact (Below.setCell (p := ⟨b, o, none⟩) (Below.refl _ _) hb v).trans (sets_below hb r (o + 1) _)
theorem sets_size (b : Nat) : ∀ (vs : List Value) (o : Nat) (w : World), (w.setCells b o vs).heap.size = w.heap.size
  | [], o, w => rfl
  | v :: r, o, w => by rw [World.setCells, sets_size b r (o + 1)]; simp [World.setCell]
/-- clear(s) at an element type of any number of cells. -/
theorem run_clear_row {P : Program} (w : World) (t e ty : TypeId) (z : Value) (s : Nat) (ht : P.underlying t = some (.slice e)) (hv : ∀ w, (zeroValue e).run P w = .ok z w) (hz : z.cells.size = s) (h1 : ∀ u ∈ z.cells, u.oneCell' = true) (hs : 0 < s) (b o c : Nat)
    (hc : ∀ j, j < s → (w.cell? ⟨b, o + j, none⟩).isSome = true) (hf : ∀ j, j < s → w.frozen? ⟨b, o + j, none⟩ = false) :
    (Builtin.clear_ #[t] ty #[.slice (some ⟨b, o, none⟩) 1 c]).run P w = .ok (.tuple #[]) (w.setCells b o z.cells.toList) := by
  have hzc : (Builtin.zeroCells z.cells 1).toList = z.cells.toList := by
    apply List.ext_getElem
    · simp [Builtin.zeroCells]
    · intro i h1 h2
      have h3 : i < z.cells.size := by simpa using h2
      have h4 : i % z.cells.size = i := Nat.mod_eq_of_lt h3
      simp [Builtin.zeroCells, h4, h3]
  have hst := run_storeCells_cells (P := P) b o z.cells.toList 0 w (by intro j hj; exact hc j (by rw [← hz]; simpa using hj)) (by intro j hj; exact hf j (by rw [← hz]; simpa using hj)) (by intro v hv'; exact h1 v (by simpa using hv'))
  simp only [Nat.add_zero] at hst
  simp [Builtin.clear_, run_underlying ht, hv, hzc, hst]
/-- Element k taken out: the rest moved down, the last one emptied. -/
theorem own_del {w : World} {B T s g n cap k : Nat} {xs zs : List Value} (h : w.ownsRow B T s (.slice (some ⟨g, 0, none⟩) n cap) n xs) (hk : k < n) (hz : zs.length = s) :
    ((w.setCells g (k * s) (xs.drop ((k + 1) * s))).setCells g ((n - 1) * s) zs).ownsRow B T s (.slice (some ⟨g, 0, none⟩) (n - 1) cap) (n - 1) (xs.take (k * s) ++ xs.drop ((k + 1) * s)) := by
  rcases h.2 with ⟨h', _⟩ | ⟨g', cap', cur, h', hb, hg, hnc, hcm, hcs, htake⟩
  · simp at h'
  simp only [Value.slice.injEq, Option.some.injEq, Addr.mk.injEq, and_true, true_and] at h'
  obtain ⟨rfl, rfl⟩ := h'
  have hl := h.1
  have e1 : (k + 1) * s = k * s + s := by rw [Nat.add_mul, Nat.one_mul]
  have e2 : (n - 1) * s + s = n * s := by rw [← Nat.succ_mul]; congr 1; omega
  have e3 : (k + 1) * s ≤ n * s := Nat.mul_le_mul_right _ hk
  have e4 : n * s ≤ cap * s := Nat.mul_le_mul_right _ hnc
  refine ⟨by rw [List.length_append, List.length_take, List.length_drop, hl]; omega, .inr ⟨g, cap, _, rfl, hb, sets_blk _ _ (sets_blk _ _ hg), by omega, hcm, by rw [Lib.lay_size, Lib.lay_size]; exact hcs, ?_⟩⟩
  have hds : (xs.drop ((k + 1) * s)).length = n * s - (k + 1) * s := by rw [List.length_drop, hl]
  apply List.ext_getElem?
  intro j
  rw [List.getElem?_take]
  by_cases hj : j < (n - 1) * s
  · rw [if_pos hj, Array.getElem?_toList, Lib.lay_get? _ _ _ _ (by rw [Lib.lay_size, hz]; omega), if_neg (by omega), Lib.lay_get? _ _ _ _ (by rw [hds]; omega), hds]
    by_cases h2 : j < k * s
    · rw [if_neg (by omega), List.getElem?_append_left (by rw [List.length_take, hl]; omega), List.getElem?_take, if_pos h2, ← htake, List.getElem?_take, if_pos (by omega), Array.getElem?_toList]
    · rw [if_pos (by omega), List.getElem?_append_right (by rw [List.length_take, hl]; omega), List.length_take, hl, show min (k * s) (n * s) = k * s by omega]
  · rw [if_neg hj, List.getElem?_eq_none]
    rw [List.length_append, List.length_take, hds, hl]; omega
end Go.Proofs.YtfdcacjfngjmdaaDoor.Own
