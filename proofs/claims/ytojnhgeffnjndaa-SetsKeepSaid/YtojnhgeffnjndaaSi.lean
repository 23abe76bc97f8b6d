import Derived.Test.YtojnhgeffnjndaaProg
import Derived.Test.YtojnhgeffnjndaaIns
import Derived.Test.YtojnhgeffnjndaaShelf
import Derived.Test.YtojnhgeffnjndaaSh
import Derived.WalkKit
import Derived.Outline
import Derived.WalkLawsBesides
import Derived.Deep.QuietTactic
import Derived.BigQuiet
import Derived.Lib.Hide
import Derived.Handy
import Derived.Deep.RegionHeld3
import Derived.Deep.DrawnRows
import Derived.Shelf.Spec.SlicesInsertGrow
import Derived.Sort.OwnSorted
import Derived.Laws.AppendOwnNone
namespace Go.Proofs.Ytojnhgeffnjndaa.T
open Go Go.RowKit Mem Go.Great Go.Sort Go.Lib
set_option maxRecDepth 100000
set_option maxHeartbeats 8000000
set_option linter.unusedVariables false
set_option linter.unusedSimpArgs false

theorem vs_get {l : List ByteArray} {j : Nat} {v : Value} (h : (vs l)[j]? = some v) : ∃ x, l[j]? = some x ∧ v = .string x := by
  simp only [vs, List.getElem?_map] at h
  cases hx : l[j]? with
  | none => rw [hx] at h; cases h
  | some x => rw [hx] at h; injection h with h; exact ⟨x, rfl, h.symm⟩
/-- A block that is known by its head. -/
theorem rd_block {w : World} {g : Nat} {cur : Array Value} {fr : Nat × Nat} {t : TypeId} {l : List ByteArray} (h : w.heap[g]? = some (.cells cur t fr)) (hc : ∀ (i : Nat) (x : ByteArray), l[i]? = some x → cur[i]? = some (Value.string x)) : Rd w (some ⟨g, 0, none⟩) l :=
  .inr ⟨g, 0, rfl, fun i x hx => by rw [Nat.zero_add, cell_of_row _ _ _ _ _ _ h]; exact hc i x hx⟩

theorem insert_end_grow (C : Option Addr) (c2 : Nat) (l : List ByteArray) (s : ByteArray) (B : Nat) (w : World) (h : w.ownsRow B 9 1 (.slice C l.length c2) l.length (vs l)) (hn : l.length < 2 ^ 30) (hroom : c2 < l.length + 1) :
    Calls Try.prog 38 #[.slice C l.length c2, .int .i64 l.length, .slice (some ⟨w.heap.size, 0, none⟩) 1 1] (w.alloc (.cells #[.string s] 9)) fun e w' => ∃ D k, e = .returned (.slice D (l.length + 1) k) ∧ Rd w' D (l ++ [s]) ∧ Below w.heap.size w w' := by
  have hrd := own_rd h
  have hc := Any2.slices_Insert_string_end_grow Try.laysNm222 C l.length c2 w.heap.size 0 1 1 (vs l) (vs [s]) (w.alloc (.cells #[.string s] 9)) (by omega) hrd.2.2.1 hroom (by omega) (by simp [vs]) (by simp [vs])
    (fun e => by
      subst e
      rcases hrd.1 with e | ⟨b, off, e, _⟩
      · rw [e]; rfl
      · cases e)
    (fun a ha j v hv => by subst ha; exact src_cell hrd.1 hv)
    (fun j v hv => by
      obtain ⟨x, hx, rfl⟩ := vs_get hv
      rcases rd_lit w [s] with e | ⟨b, off, e, hc⟩
      · cases e
      · injection e with e; injection e with e1 e2; subst e1; subst e2
        exact hc j x hx)
    (vs_one [s])
  refine hc.mono ?_
  rintro e w' ⟨rfl, rfl⟩
  refine ⟨_, _, rfl, ?_, ?_⟩
  · refine rd_block (heap_alloc_new _ _) fun i x hx => ?_
    have hi : i < (l ++ [s]).length := (List.getElem?_eq_some_iff.1 hx).1
    rw [Array.getElem?_append_left (by simp [vs] at hi ⊢; omega)]
    simp only [List.getElem?_toArray]
    have : vs l ++ vs [s] = vs (l ++ [s]) := by simp [vs]
    rw [this]
    simp only [vs, List.getElem?_map, hx, Option.map_some]
  · exact (((Below.refl _ _).alloc (Nat.le_refl _) _).drew).alloc (by show w.heap.size ≤ (w.alloc _).heap.size; rw [alloc_size]; omega) _

theorem own_block_room {w : World} {B c2 : Nat} {C : Option Addr} {l : List ByteArray} (h : w.ownsRow B 9 1 (.slice C l.length c2) l.length (vs l)) (hroom : l.length + 1 ≤ c2) : ∃ g cur, C = some ⟨g, 0, none⟩ ∧ B ≤ g ∧ w.heap[g]? = some (.cells cur 9 (0, 0)) ∧ c2 ≤ maxLen ∧ cur.size = c2 := by
  rcases h.2 with ⟨e, h0⟩ | ⟨g, cap, cur, e, h1, h2, h3, h4, h5, _⟩
  · injection e with e1 e2 e3; omega
  · injection e with e1 e2 e3
    subst e1; subst e3
    exact ⟨g, cur, rfl, h1, h2, h4, by omega⟩
end Go.Proofs.Ytojnhgeffnjndaa.T
