import Derived.Test.YtojnhgeffnjndaaProg
import Derived.Test.YtojnhgeffnjndaaShelf
import Derived.Test.YtojnhgeffnjndaaSk
import Derived.WalkKit
import Derived.Outline
import Derived.WalkLawsBesides
import Derived.Deep.QuietTactic
import Derived.BigQuiet
import Derived.Lib.Hide
import Derived.Handy
import Derived.Deep.RegionHeld3
import Derived.Deep.DrawnRows
import Derived.Shelf.Spec.SlicesInsertGrow
import Derived.Sort.OwnSorted
import Derived.Laws.AppendOwnNone
namespace Go.Proofs.Ytojnhgeffnjndaa.T
open Go Go.RowKit Mem Go.Great Go.Sort Go.Lib
set_option maxRecDepth 100000
set_option maxHeartbeats 8000000
set_option linter.unusedVariables false
set_option linter.unusedSimpArgs false


theorem zc_size (n : Nat) : (Builtin.zeroCells (Value.string ⟨#[]⟩).cells n).size = n := by simp [Builtin.zeroCells, Value.cells]

theorem insert_grow (C : Option Addr) (c2 k : Nat) (l : List ByteArray) (s : ByteArray) (B : Nat) (w : World) (h : w.ownsRow B 9 1 (.slice C l.length c2) l.length (vs l)) (hn : l.length < 2 ^ 30) (hk : k < l.length) (hroom : c2 < l.length + 1) :
    Calls Try.prog 38 #[.slice C l.length c2, .int .i64 k, .slice (some ⟨w.heap.size, 0, none⟩) 1 1] (w.alloc (.cells #[.string s] 9)) fun e w' => ∃ D c, e = .returned (.slice D (l.length + 1) c) ∧ Rd w' D (l.take k ++ s :: l.drop k) ∧ Below w.heap.size w w' := by
  obtain ⟨g, rfl⟩ := own_addr h (by omega)
  have hrd := own_rd h
  have hc := Any2.slices_Insert_string_grow Try.laysNm222 g 0 l.length c2 k w.heap.size 0 1 1 (vs l) (vs [s]) (w.alloc (.cells #[.string s] 9)) hk (by omega) hrd.2.2.1 hroom (by omega) (by simp [vs]) rfl
    (fun j v hv => by
        obtain ⟨x, hx, rfl⟩ := vs_get hv
        have hj : j < l.length := (List.getElem?_eq_some_iff.1 hx).1
        have := h.cellAt j (by omega)
        have h2 : w.cell? ⟨g, 0 + j, none⟩ = some (.string x) := by rw [Nat.zero_add, this]; simp only [vs, List.getElem?_map, hx, Option.map_some]
        exact cell_alloc h2 _) (arg_cell w s) (vs_one l) (vs_one [s])
  refine hc.mono ?_
  rintro e w' ⟨rfl, rfl⟩
  have hB1 : Below w.heap.size w (w.alloc (.cells #[.string s] 9)) := (Below.refl _ _).alloc (Nat.le_refl _) _
  have hsz : w.heap.size ≤ (w.alloc (.cells #[.string s] 9)).heap.size := by rw [alloc_size]; omega
  refine ⟨_, _, rfl, ?_, below_cells _ hsz _ _ (below_cells _ hsz _ _ (hB1.alloc hsz _).drew).drew⟩
  have hd : (vs l).drop k = vs (l.drop k) := by simp [vs]
  rw [hd, drew_setCells]
  refine rd_shift2 _ _ l s k (by omega) (fun j hj => ?_) (fun j x hj hx => ?_)
  · have hb := heap_alloc_new (w.alloc (.cells #[.string s] 9)) (.cells (((vs l).take k).toArray ++ Builtin.zeroCells (Value.string ⟨#[]⟩).cells (l.length + 1 - k) ++ Builtin.zeroCells (Value.string ⟨#[]⟩).cells (grownCap (w.alloc (.cells #[.string s] 9)) (l.length + 1) c2 9 - (l.length + 1))) 9)
    have := cell_of_row _ _ j _ _ _ hb
    refine (congrArg Option.isSome this).trans ?_
    rw [Array.getElem?_eq_getElem (by simp [zc_size, vs]; omega)]; rfl
  · have hb := heap_alloc_new (w.alloc (.cells #[.string s] 9)) (.cells (((vs l).take k).toArray ++ Builtin.zeroCells (Value.string ⟨#[]⟩).cells (l.length + 1 - k) ++ Builtin.zeroCells (Value.string ⟨#[]⟩).cells (grownCap (w.alloc (.cells #[.string s] 9)) (l.length + 1) c2 9 - (l.length + 1))) 9)
    have := cell_of_row _ _ j _ _ _ hb
    refine this.trans ?_
    rw [Array.getElem?_append_left (by simp [zc_size, vs]; omega), Array.getElem?_append_left (by simp [vs]; omega), List.getElem?_toArray, List.getElem?_take_of_lt hj]
    simp only [vs, List.getElem?_map, hx, Option.map_some]

/-- slices.Insert of one text at a place of a row of the call's own -/
theorem insert_is (C : Option Addr) (c2 k : Nat) (l : List ByteArray) (s : ByteArray) (B : Nat) (w : World) (h : w.ownsRow B 9 1 (.slice C l.length c2) l.length (vs l)) (hn : l.length < 2 ^ 30) (hk : k ≤ l.length) (hB : B ≤ w.heap.size) :
    Calls Try.prog 38 #[.slice C l.length c2, .int .i64 k, .slice (some ⟨w.heap.size, 0, none⟩) 1 1] (w.alloc (.cells #[.string s] 9)) fun e w' => ∃ D c, e = .returned (.slice D (l.length + 1) c) ∧ Rd w' D (l.take k ++ s :: l.drop k) ∧ Below B w w' := by
  by_cases hroom : l.length + 1 ≤ c2
  · exact insert_room C c2 k l s B w h hn hk hroom
  · by_cases hkn : k = l.length
    · subst hkn
      refine (insert_end_grow C c2 l s B w h hn (by omega)).mono ?_
      rintro e w' ⟨D, c, he, hr, hb⟩
      refine ⟨D, c, he, ?_, hb.mono hB⟩
      rw [List.take_length, List.drop_length]; exact hr
    · refine (insert_grow C c2 k l s B w h hn (by omega) (by omega)).mono ?_
      rintro e w' ⟨D, c, he, hr, hb⟩
      exact ⟨D, c, he, hr, hb.mono hB⟩
end Go.Proofs.Ytojnhgeffnjndaa.T
