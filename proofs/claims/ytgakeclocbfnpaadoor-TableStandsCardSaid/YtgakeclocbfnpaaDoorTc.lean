import Derived.Test.YtgakeclocbfnpaaDoorProg
import Derived.Test.YtgakeclocbfnpaaDoorMem
import Derived.Test.YtgakeclocbfnpaaDoorTa
import Derived.Test.YtgakeclocbfnpaaDoorTb
import Derived.WalkKit
import Derived.Outline
import Derived.WalkLawsBesides
import Derived.Deep.QuietTactic
import Derived.BigQuiet
import Derived.Lib.Hide
import Derived.Handy
import Derived.Deep.RegionHeld3
import Derived.Deep.DrawnRows
import Derived.KernelRfl
import Derived.Great.Walk
namespace Go.Proofs.YtgakeclocbfnpaaDoor.T
open Go Go.RowKit Mem
set_option maxRecDepth 100000
set_option maxHeartbeats 8000000
set_option linter.unusedVariables false
set_option linter.unusedSimpArgs false

def sp (k : Nat) : Sp := specs.getD k sp0
theorem specs_len : specs.length = 47 := rfl
theorem cells_get : ∀ (l : List Sp) (k : Nat), k < l.length → ∀ j, j < 7 → (l.flatMap spC)[k * 7 + j]? = (spC (l.getD k sp0))[j]?
  | [], k, h, _, _ => absurd h (Nat.not_lt_zero _)
  | s :: l, 0, _, j, hj => by
    rw [List.flatMap_cons, List.getElem?_append_left (by simp [spC]; omega)]; simp
  | s :: l, k + 1, h, j, hj => by
    rw [List.flatMap_cons, List.getElem?_append_right (by simp [spC]; omega)]
    have := cells_get l k (by simpa using h) j hj
    rw [show (k + 1) * 7 + j - (spC s).length = k * 7 + j by simp [spC]; omega, this]; rfl

/-- Block b is the table. -/
structure Tab (w : World) (b : Nat) : Prop where
  c0 : ∀ k, k < 47 → w.cell? ⟨b, k * 7, none⟩ = some (.string (sp k).name)
  c1 : ∀ k, k < 47 → w.cell? ⟨b, k * 7 + 1, none⟩ = some (.int .i64 (sp k).least)
  c2 : ∀ k, k < 47 → w.cell? ⟨b, k * 7 + 2, none⟩ = some (.int .i64 (sp k).most)
  c3 : ∀ k, k < 47 → w.cell? ⟨b, k * 7 + 3, none⟩ = some (.int .i64 (sp k).first)
  c4 : ∀ k, k < 47 → w.cell? ⟨b, k * 7 + 4, none⟩ = some (.int .i64 (sp k).last)
  c5 : ∀ k, k < 47 → w.cell? ⟨b, k * 7 + 5, none⟩ = some (.int .i64 (sp k).step)
  c6 : ∀ k, k < 47 → w.cell? ⟨b, k * 7 + 6, none⟩ = some (.bool (sp k).writes)
theorem Tab.below {w w' : World} {b : Nat} (h : Tab w b) (hb : Below w.heap.size w w') : Tab w' b :=
  ⟨fun k hk => cell_below hb (h.c0 k hk), fun k hk => cell_below hb (h.c1 k hk), fun k hk => cell_below hb (h.c2 k hk), fun k hk => cell_below hb (h.c3 k hk),
   fun k hk => cell_below hb (h.c4 k hk), fun k hk => cell_below hb (h.c5 k hk), fun k hk => cell_below hb (h.c6 k hk)⟩
theorem tab_new (w : World) : Tab (w.alloc (.cells cells 25)) w.heap.size := by
  have h : ∀ k, k < 47 → ∀ j, j < 7 → (w.alloc (.cells cells 25)).cell? ⟨w.heap.size, k * 7 + j, none⟩ = (spC (sp k))[j]? := fun k hk j hj => by
    rw [cell_of_row _ _ _ _ 25 (0, 0) (heap_alloc_new w _)]
    have : (specs.flatMap spC)[k * 7 + j]? = (spC (sp k))[j]? := cells_get specs k hk j hj
    unfold cells
    exact (by simpa using this)
  exact ⟨fun k hk => h k hk 0 (by omega), fun k hk => h k hk 1 (by omega), fun k hk => h k hk 2 (by omega), fun k hk => h k hk 3 (by omega), fun k hk => h k hk 4 (by omega), fun k hk => h k hk 5 (by omega), fun k hk => h k hk 6 (by omega)⟩

theorem cells_at {k : Nat} (hk : k < 47) : cells[k * 7]? = some (.string (sp k).name) ∧ cells[k * 7 + 1]? = some (.int .i64 (sp k).least) ∧ cells[k * 7 + 2]? = some (.int .i64 (sp k).most) ∧ cells[k * 7 + 3]? = some (.int .i64 (sp k).first) ∧
    cells[k * 7 + 4]? = some (.int .i64 (sp k).last) ∧ cells[k * 7 + 5]? = some (.int .i64 (sp k).step) ∧ cells[k * 7 + 6]? = some (.bool (sp k).writes) := by
  have h : ∀ j, j < 7 → cells[k * 7 + j]? = (spC (sp k))[j]? := fun j hj => by
    have : (specs.flatMap spC)[k * 7 + j]? = (spC (sp k))[j]? := cells_get specs k hk j hj
    unfold cells
    exact (by simpa using this)
  exact ⟨h 0 (by omega), h 1 (by omega), h 2 (by omega), h 3 (by omega), h 4 (by omega), h 5 (by omega), h 6 (by omega)⟩
/-- Where a name stands (47: nowhere). -/
def fk (s : ByteArray) : Nat := specs.findIdx fun r => decide (up r.name = up s)
theorem fk_le (s : ByteArray) : fk s ≤ 47 := List.findIdx_le_length
theorem fk_at {s : ByteArray} {k : Nat} (hk : k < 47) (hno : ∀ j, j < k → up (sp j).name ≠ up s) (h : up (sp k).name = up s) : fk s = k := by
  unfold fk
  have hk' : k < specs.length := hk
  have e : ∀ (j : Nat) (hj : j < specs.length), specs[j] = sp j := fun j hj => by unfold sp; simp [hj]
  rw [List.findIdx_eq hk', e k hk']
  refine ⟨by simpa using h, fun j hj => ?_⟩
  rw [e j (Nat.lt_trans hj hk')]; simpa using hno j hj
theorem fk_none {s : ByteArray} (hno : ∀ j, j < 47 → up (sp j).name ≠ up s) : fk s = 47 := by
  unfold fk
  have e : ∀ (j : Nat) (hj : j < specs.length), specs[j] = sp j := fun j hj => by unfold sp; simp [hj]
  refine Nat.le_antisymm (fk_le s) (Nat.le_of_not_lt fun hlt => ?_)
  have hlt' : specs.findIdx (fun r => decide (up r.name = up s)) < specs.length := hlt
  have := List.findIdx_getElem (w := hlt')
  rw [e _ hlt'] at this
  exact hno _ hlt (by simpa using this)
def fsp (s : ByteArray) : Sp := sp (fk s)
def fis (s : ByteArray) : Bool := decide (fk s < 47)
theorem names_small : ∀ k, k < 47 → (sp k).name.size ≤ 7 := by decide
theorem names_max {k : Nat} (hk : k < 47) : (sp k).name.size ≤ maxLen := Nat.le_trans (names_small k hk) (by decide)
theorem sp_47 : sp 47 = sp0 := rfl
end Go.Proofs.YtgakeclocbfnpaaDoor.T
