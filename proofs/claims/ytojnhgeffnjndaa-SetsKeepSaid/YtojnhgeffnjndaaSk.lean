import Derived.Test.YtojnhgeffnjndaaProg
import Derived.Test.YtojnhgeffnjndaaShelf
import Derived.Test.YtojnhgeffnjndaaSj
import Derived.WalkKit
import Derived.Outline
import Derived.WalkLawsBesides
import Derived.Deep.QuietTactic
import Derived.BigQuiet
import Derived.Lib.Hide
import Derived.Handy
import Derived.Deep.RegionHeld3
import Derived.Deep.DrawnRows
import Derived.Shelf.Spec.SlicesInsertGrow
import Derived.Sort.OwnSorted
import Derived.Laws.AppendOwnNone
namespace Go.Proofs.Ytojnhgeffnjndaa.T
open Go Go.RowKit Mem Go.Great Go.Sort Go.Lib
set_option maxRecDepth 100000
set_option maxHeartbeats 8000000
set_option linter.unusedVariables false
set_option linter.unusedSimpArgs false


theorem arg_cell (w : World) (s : ByteArray) : ∀ (j : Nat) (v : Value), (vs [s])[j]? = some v → (w.alloc (.cells #[.string s] 9)).cell? ⟨w.heap.size, 0 + j, none⟩ = some v := fun j v hv => by
  obtain ⟨x, hx, rfl⟩ := vs_get hv
  rcases rd_lit w [s] with e | ⟨b, off, e, hc⟩
  · cases e
  · injection e with e; injection e with e1 e2; subst e1; subst e2
    exact hc j x hx
theorem row_of_block {w : World} {g : Nat} {cur : Array Value} {c2 : Nat} (hb : w.heap[g]? = some (.cells cur 9 (0, 0))) (hsz : cur.size = c2) (o : Obj) :
    (∀ j, j < c2 → ((w.alloc o).cell? ⟨g, j, none⟩).isSome = true) ∧ (∀ j, (w.alloc o).frozen? ⟨g, j, none⟩ = false) := by
  have hlt := lt_of_block hb
  have hb' : (w.alloc o).heap[g]? = some (.cells cur 9 (0, 0)) := (Below.heap_alloc w o g hlt).trans hb
  constructor
  · intro j hj
    rw [cell_of_row _ _ _ _ _ _ hb', Array.getElem?_eq_getElem (by omega)]; rfl
  · intro j; simp [World.frozen?, hb']

theorem insert_room (C : Option Addr) (c2 k : Nat) (l : List ByteArray) (s : ByteArray) (B : Nat) (w : World) (h : w.ownsRow B 9 1 (.slice C l.length c2) l.length (vs l)) (hn : l.length < 2 ^ 30) (hk : k ≤ l.length) (hroom : l.length + 1 ≤ c2) :
    Calls Try.prog 38 #[.slice C l.length c2, .int .i64 k, .slice (some ⟨w.heap.size, 0, none⟩) 1 1] (w.alloc (.cells #[.string s] 9)) fun e w' => ∃ D c, e = .returned (.slice D (l.length + 1) c) ∧ Rd w' D (l.take k ++ s :: l.drop k) ∧ Below B w w' := by
  obtain ⟨g, cur, rfl, hB, hb, hcm, hsz⟩ := own_block_room h hroom
  have hg := lt_of_block hb
  obtain ⟨r1, r2⟩ := row_of_block hb hsz (.cells #[.string s] 9)
  have hlow : ∀ j x, j < k → l[j]? = some x → (w.alloc (.cells #[.string s] 9)).cell? ⟨g, j, none⟩ = some (Value.string x) := fun j x _ hx => by
    have hj : j < l.length := (List.getElem?_eq_some_iff.1 hx).1
    have := h.cellAt j (by omega)
    have h2 : w.cell? ⟨g, j, none⟩ = some (.string x) := by rw [this]; simp only [vs, List.getElem?_map, hx, Option.map_some]
    exact cell_alloc h2 _
  have hBw : Below B w (w.alloc (.cells #[.string s] 9)) := (Below.refl _ _).alloc (by omega) _
  have hnew : (w.alloc (.cells #[.string s] 9)).heap[w.heap.size]? = some (.cells #[.string s] 9 (0, 0)) := heap_alloc_new w _
  have hold : (w.alloc (.cells #[.string s] 9)).heap[g]? = some (.cells cur 9 (0, 0)) := (Below.heap_alloc w _ g hg).trans hb
  have hsh : (w.alloc (.cells #[.string s] 9)).shape? w.heap.size = some (9, 1) := by unfold World.shape?; rw [hnew]; rfl
  have hsg : (w.alloc (.cells #[.string s] 9)).shape? g = some (9, c2) := by unfold World.shape?; rw [hold]; simp [hsz]
  have hfz : ∀ j, (w.alloc (.cells #[.string s] 9)).frozen? ⟨w.heap.size, j, none⟩ = false := fun j => by simp only [World.frozen?]; rw [hnew]; simp
  by_cases hkn : k = l.length
  · subst hkn
    have hc := Any2.slices_Insert_string_end_room Try.laysNm222 g 0 l.length c2 w.heap.size 0 1 1 (vs [s]) (w.alloc (.cells #[.string s] 9)) (by omega) hroom (by unfold maxLen at hcm; omega) rfl
      (fun j hj => r1 _ (by omega)) (fun j _ => r2 _) (arg_cell w s) (vs_one [s])
    refine hc.mono ?_
    rintro e w' ⟨rfl, rfl⟩
    refine ⟨_, c2, rfl, ?_, below_cells g hB _ _ hBw⟩
    have := rd_shift (w.alloc (.cells #[.string s] 9)) g l s l.length (Nat.le_refl _) (fun j hj => r1 j (by omega)) hlow
    rw [List.drop_length] at this
    rw [Nat.zero_add, List.drop_length]
    exact this
  · have hc := Any2.slices_Insert_string_shift Try.laysNm222 g 0 l.length c2 k w.heap.size 0 1 1 (vs l) (vs [s]) (w.alloc (.cells #[.string s] 9)) (by omega) (by omega) hroom (by unfold maxLen at hcm; omega) (by omega)
      (by simp [vs]) rfl (fun j v hv => by
        obtain ⟨x, hx, rfl⟩ := vs_get hv
        have hj : j < l.length := (List.getElem?_eq_some_iff.1 hx).1
        have := h.cellAt j (by omega)
        have h2 : w.cell? ⟨g, 0 + j, none⟩ = some (.string x) := by rw [Nat.zero_add, this]; simp only [vs, List.getElem?_map, hx, Option.map_some]
        exact cell_alloc h2 _) (fun j hj => r1 _ (by omega)) (fun j _ => r2 _) (arg_cell w s) (vs_one l) (vs_one [s])
      9 9 1 c2 hsh hsg (by omega) (hfz 0) (hfz 1)
    refine hc.mono ?_
    rintro e w' ⟨rfl, rfl⟩
    refine ⟨_, c2, rfl, ?_, below_cells g hB _ _ (below_cells g hB _ _ hBw.drew)⟩
    have := rd_shift (w.alloc (.cells #[.string s] 9)).drew g l s k hk (fun j hj => r1 j (by omega)) hlow
    have hd : (vs l).drop k = vs (l.drop k) := by simp [vs]
    rw [hd, Nat.zero_add, Nat.zero_add]
    exact this
end Go.Proofs.Ytojnhgeffnjndaa.T
