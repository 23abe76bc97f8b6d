import Derived.Test.YtojnhgeffnjndaaProg
import Derived.Test.YtojnhgeffnjndaaShelf
import Derived.Test.YtojnhgeffnjndaaSp
import Derived.WalkKit
import Derived.Outline
import Derived.WalkLawsBesides
import Derived.Deep.QuietTactic
import Derived.BigQuiet
import Derived.Lib.Hide
import Derived.Handy
import Derived.Deep.RegionHeld3
import Derived.Deep.DrawnRows
import Derived.Shelf.Spec.SlicesInsertGrow
import Derived.Sort.OwnSorted
import Derived.Laws.AppendOwnNone
namespace Go.Proofs.Ytojnhgeffnjndaa.T
open Go Go.RowKit Mem Go.Great Go.Sort Go.Lib
set_option maxRecDepth 100000
set_option maxHeartbeats 8000000
set_option linter.unusedVariables false
set_option linter.unusedSimpArgs false


theorem frozen_new (w : World) (cs : Array Value) (T : TypeId) (j : Nat) : (w.alloc (.cells cs T)).frozen? ⟨w.heap.size, j, none⟩ = false := by
  have h := heap_alloc_new w (.cells cs T)
  simp only [World.frozen?]; rw [h]; simp
/-- A row that may be written into: its block is new. -/
def OwnD (D : Option Addr) (B : Nat) (w : World) : Prop := ∃ g, D = some ⟨g, 0, none⟩ ∧ B ≤ g ∧ ∀ j, w.frozen? ⟨g, j, none⟩ = false
theorem OwnD.mono {D : Option Addr} {B B' : Nat} {w : World} (h : OwnD D B w) (hb : B' ≤ B) : OwnD D B' w := by
  obtain ⟨g, h1, h2, h3⟩ := h
  exact ⟨g, h1, Nat.le_trans hb h2, h3⟩

theorem insert_end_growO (C : Option Addr) (c2 : Nat) (l : List ByteArray) (s : ByteArray) (B : Nat) (w : World) (h : w.ownsRow B 9 1 (.slice C l.length c2) l.length (vs l)) (hn : l.length < 2 ^ 30) (hroom : c2 < l.length + 1) :
    Calls Try.prog 38 #[.slice C l.length c2, .int .i64 l.length, .slice (some ⟨w.heap.size, 0, none⟩) 1 1] (w.alloc (.cells #[.string s] 9)) fun e w' => ∃ D k, e = .returned (.slice D (l.length + 1) k) ∧ Rd w' D (l ++ [s]) ∧ Below w.heap.size w w' ∧ OwnD D w.heap.size w' := by
  have hrd := own_rd h
  have hc := Any2.slices_Insert_string_end_grow Try.laysNm222 C l.length c2 w.heap.size 0 1 1 (vs l) (vs [s]) (w.alloc (.cells #[.string s] 9)) (by omega) hrd.2.2.1 hroom (by omega) (by simp [vs]) (by simp [vs])
    (fun e => by
      subst e
      rcases hrd.1 with e | ⟨b, off, e, _⟩
      · rw [e]; rfl
      · cases e)
    (fun a ha j v hv => by subst ha; exact src_cell hrd.1 hv)
    (fun j v hv => by
      obtain ⟨x, hx, rfl⟩ := vs_get hv
      rcases rd_lit w [s] with e | ⟨b, off, e, hc⟩
      · cases e
      · injection e with e; injection e with e1 e2; subst e1; subst e2
        exact hc j x hx)
    (vs_one [s])
  refine hc.mono ?_
  rintro e w' ⟨rfl, rfl⟩
  refine ⟨_, _, rfl, ?_, ?_, ?_⟩
  · refine rd_block (heap_alloc_new _ _) fun i x hx => ?_
    have hi : i < (l ++ [s]).length := (List.getElem?_eq_some_iff.1 hx).1
    rw [Array.getElem?_append_left (by simp [vs] at hi ⊢; omega)]
    simp only [List.getElem?_toArray]
    have : vs l ++ vs [s] = vs (l ++ [s]) := by simp [vs]
    rw [this]
    simp only [vs, List.getElem?_map, hx, Option.map_some]
  · exact (((Below.refl _ _).alloc (Nat.le_refl _) _).drew).alloc (by show w.heap.size ≤ (w.alloc _).heap.size; rw [alloc_size]; omega) _
  · exact ⟨(w.alloc (.cells #[.string s] 9)).heap.size, rfl, by rw [alloc_size]; omega, fun j => frozen_new _ _ _ j⟩

theorem insert_roomO (C : Option Addr) (c2 k : Nat) (l : List ByteArray) (s : ByteArray) (B : Nat) (w : World) (h : w.ownsRow B 9 1 (.slice C l.length c2) l.length (vs l)) (hn : l.length < 2 ^ 30) (hk : k ≤ l.length) (hroom : l.length + 1 ≤ c2) :
    Calls Try.prog 38 #[.slice C l.length c2, .int .i64 k, .slice (some ⟨w.heap.size, 0, none⟩) 1 1] (w.alloc (.cells #[.string s] 9)) fun e w' => ∃ D c, e = .returned (.slice D (l.length + 1) c) ∧ Rd w' D (l.take k ++ s :: l.drop k) ∧ Below B w w' ∧ OwnD D B w' := by
  obtain ⟨g, cur, rfl, hB, hb, hcm, hsz⟩ := own_block_room h hroom
  have hg := lt_of_block hb
  obtain ⟨r1, r2⟩ := row_of_block hb hsz (.cells #[.string s] 9)
  have hlow : ∀ j x, j < k → l[j]? = some x → (w.alloc (.cells #[.string s] 9)).cell? ⟨g, j, none⟩ = some (Value.string x) := fun j x _ hx => by
    have hj : j < l.length := (List.getElem?_eq_some_iff.1 hx).1
    have := h.cellAt j (by omega)
    have h2 : w.cell? ⟨g, j, none⟩ = some (.string x) := by rw [this]; simp only [vs, List.getElem?_map, hx, Option.map_some]
    exact cell_alloc h2 _
  have hBw : Below B w (w.alloc (.cells #[.string s] 9)) := (Below.refl _ _).alloc (by omega) _
  have hnew : (w.alloc (.cells #[.string s] 9)).heap[w.heap.size]? = some (.cells #[.string s] 9 (0, 0)) := heap_alloc_new w _
  have hold : (w.alloc (.cells #[.string s] 9)).heap[g]? = some (.cells cur 9 (0, 0)) := (Below.heap_alloc w _ g hg).trans hb
  have hsh : (w.alloc (.cells #[.string s] 9)).shape? w.heap.size = some (9, 1) := by unfold World.shape?; rw [hnew]; rfl
  have hsg : (w.alloc (.cells #[.string s] 9)).shape? g = some (9, c2) := by unfold World.shape?; rw [hold]; simp [hsz]
  have hfz : ∀ j, (w.alloc (.cells #[.string s] 9)).frozen? ⟨w.heap.size, j, none⟩ = false := fun j => by simp only [World.frozen?]; rw [hnew]; simp
  by_cases hkn : k = l.length
  · subst hkn
    have hc := Any2.slices_Insert_string_end_room Try.laysNm222 g 0 l.length c2 w.heap.size 0 1 1 (vs [s]) (w.alloc (.cells #[.string s] 9)) (by omega) hroom (by unfold maxLen at hcm; omega) rfl
      (fun j hj => r1 _ (by omega)) (fun j _ => r2 _) (arg_cell w s) (vs_one [s])
    refine hc.mono ?_
    rintro e w' ⟨rfl, rfl⟩
    refine ⟨_, c2, rfl, ?_, below_cells g hB _ _ hBw, ⟨g, rfl, hB, fun j => by rw [World.frozen?_setCells]; exact r2 j⟩⟩
    have := rd_shift (w.alloc (.cells #[.string s] 9)) g l s l.length (Nat.le_refl _) (fun j hj => r1 j (by omega)) hlow
    rw [List.drop_length] at this
    rw [Nat.zero_add, List.drop_length]
    exact this
  · have hc := Any2.slices_Insert_string_shift Try.laysNm222 g 0 l.length c2 k w.heap.size 0 1 1 (vs l) (vs [s]) (w.alloc (.cells #[.string s] 9)) (by omega) (by omega) hroom (by unfold maxLen at hcm; omega) (by omega)
      (by simp [vs]) rfl (fun j v hv => by
        obtain ⟨x, hx, rfl⟩ := vs_get hv
        have hj : j < l.length := (List.getElem?_eq_some_iff.1 hx).1
        have := h.cellAt j (by omega)
        have h2 : w.cell? ⟨g, 0 + j, none⟩ = some (.string x) := by rw [Nat.zero_add, this]; simp only [vs, List.getElem?_map, hx, Option.map_some]
        exact cell_alloc h2 _) (fun j hj => r1 _ (by omega)) (fun j _ => r2 _) (arg_cell w s) (vs_one l) (vs_one [s])
      9 9 1 c2 hsh hsg (by omega) (hfz 0) (hfz 1)
    refine hc.mono ?_
    rintro e w' ⟨rfl, rfl⟩
    refine ⟨_, c2, rfl, ?_, below_cells g hB _ _ (below_cells g hB _ _ hBw.drew), ⟨g, rfl, hB, fun j => by rw [World.frozen?_setCells, World.frozen?_setCells]; exact r2 j⟩⟩
    have := rd_shift (w.alloc (.cells #[.string s] 9)).drew g l s k hk (fun j hj => r1 j (by omega)) hlow
    have hd : (vs l).drop k = vs (l.drop k) := by simp [vs]
    rw [hd, Nat.zero_add, Nat.zero_add]
    exact this

theorem insert_growO (C : Option Addr) (c2 k : Nat) (l : List ByteArray) (s : ByteArray) (B : Nat) (w : World) (h : w.ownsRow B 9 1 (.slice C l.length c2) l.length (vs l)) (hn : l.length < 2 ^ 30) (hk : k < l.length) (hroom : c2 < l.length + 1) :
    Calls Try.prog 38 #[.slice C l.length c2, .int .i64 k, .slice (some ⟨w.heap.size, 0, none⟩) 1 1] (w.alloc (.cells #[.string s] 9)) fun e w' => ∃ D c, e = .returned (.slice D (l.length + 1) c) ∧ Rd w' D (l.take k ++ s :: l.drop k) ∧ Below w.heap.size w w' ∧ OwnD D w.heap.size w' := by
  obtain ⟨g, rfl⟩ := own_addr h (by omega)
  have hrd := own_rd h
  have hc := Any2.slices_Insert_string_grow Try.laysNm222 g 0 l.length c2 k w.heap.size 0 1 1 (vs l) (vs [s]) (w.alloc (.cells #[.string s] 9)) hk (by omega) hrd.2.2.1 hroom (by omega) (by simp [vs]) rfl
    (fun j v hv => by
        obtain ⟨x, hx, rfl⟩ := vs_get hv
        have hj : j < l.length := (List.getElem?_eq_some_iff.1 hx).1
        have := h.cellAt j (by omega)
        have h2 : w.cell? ⟨g, 0 + j, none⟩ = some (.string x) := by rw [Nat.zero_add, this]; simp only [vs, List.getElem?_map, hx, Option.map_some]
        exact cell_alloc h2 _) (arg_cell w s) (vs_one l) (vs_one [s])
  refine hc.mono ?_
  rintro e w' ⟨rfl, rfl⟩
  have hB1 : Below w.heap.size w (w.alloc (.cells #[.string s] 9)) := (Below.refl _ _).alloc (Nat.le_refl _) _
  have hsz : w.heap.size ≤ (w.alloc (.cells #[.string s] 9)).heap.size := by rw [alloc_size]; omega
  refine ⟨_, _, rfl, ?_, below_cells _ hsz _ _ (below_cells _ hsz _ _ (hB1.alloc hsz _).drew).drew, ⟨(w.alloc (.cells #[.string s] 9)).heap.size, rfl, hsz, fun j => ?_⟩⟩
  rotate_left
  · rw [World.frozen?_setCells]
    refine (World.frozen?_setCells _ _ _ _ _).trans ?_
    exact frozen_new _ _ _ j
  have hd : (vs l).drop k = vs (l.drop k) := by simp [vs]
  rw [hd, drew_setCells]
  refine rd_shift2 _ _ l s k (by omega) (fun j hj => ?_) (fun j x hj hx => ?_)
  · have hb := heap_alloc_new (w.alloc (.cells #[.string s] 9)) (.cells (((vs l).take k).toArray ++ Builtin.zeroCells (Value.string ⟨#[]⟩).cells (l.length + 1 - k) ++ Builtin.zeroCells (Value.string ⟨#[]⟩).cells (grownCap (w.alloc (.cells #[.string s] 9)) (l.length + 1) c2 9 - (l.length + 1))) 9)
    have := cell_of_row _ _ j _ _ _ hb
    refine (congrArg Option.isSome this).trans ?_
    rw [Array.getElem?_eq_getElem (by simp [zc_size, vs]; omega)]; rfl
  · have hb := heap_alloc_new (w.alloc (.cells #[.string s] 9)) (.cells (((vs l).take k).toArray ++ Builtin.zeroCells (Value.string ⟨#[]⟩).cells (l.length + 1 - k) ++ Builtin.zeroCells (Value.string ⟨#[]⟩).cells (grownCap (w.alloc (.cells #[.string s] 9)) (l.length + 1) c2 9 - (l.length + 1))) 9)
    have := cell_of_row _ _ j _ _ _ hb
    refine this.trans ?_
    rw [Array.getElem?_append_left (by simp [zc_size, vs]; omega), Array.getElem?_append_left (by simp [vs]; omega), List.getElem?_toArray, List.getElem?_take_of_lt hj]
    simp only [vs, List.getElem?_map, hx, Option.map_some]


theorem insert_isO (C : Option Addr) (c2 k : Nat) (l : List ByteArray) (s : ByteArray) (B : Nat) (w : World) (h : w.ownsRow B 9 1 (.slice C l.length c2) l.length (vs l)) (hn : l.length < 2 ^ 30) (hk : k ≤ l.length) (hB : B ≤ w.heap.size) :
    Calls Try.prog 38 #[.slice C l.length c2, .int .i64 k, .slice (some ⟨w.heap.size, 0, none⟩) 1 1] (w.alloc (.cells #[.string s] 9)) fun e w' => ∃ D c, e = .returned (.slice D (l.length + 1) c) ∧ Rd w' D (l.take k ++ s :: l.drop k) ∧ Below B w w' ∧ OwnD D B w' := by
  by_cases hroom : l.length + 1 ≤ c2
  · exact insert_roomO C c2 k l s B w h hn hk hroom
  · by_cases hkn : k = l.length
    · subst hkn
      refine (insert_end_growO C c2 l s B w h hn (by omega)).mono ?_
      rintro e w' ⟨D, c, he, hr, hb, ho⟩
      refine ⟨D, c, he, ?_, hb.mono hB, ho.mono hB⟩
      rw [List.take_length, List.drop_length]; exact hr
    · refine (insert_growO C c2 k l s B w h hn (by omega) (by omega)).mono ?_
      rintro e w' ⟨D, c, he, hr, hb, ho⟩
      exact ⟨D, c, he, hr, hb.mono hB, ho.mono hB⟩
end Go.Proofs.Ytojnhgeffnjndaa.T
