import Derived.Test.YtojnhgeffnjndaaProg
import Derived.Test.YtojnhgeffnjndaaShelf
import Derived.Test.YtojnhgeffnjndaaSi
import Derived.WalkKit
import Derived.Outline
import Derived.WalkLawsBesides
import Derived.Deep.QuietTactic
import Derived.BigQuiet
import Derived.Lib.Hide
import Derived.Handy
import Derived.Deep.RegionHeld3
import Derived.Deep.DrawnRows
import Derived.Shelf.Spec.SlicesInsertGrow
import Derived.Sort.OwnSorted
import Derived.Laws.AppendOwnNone
namespace Go.Proofs.Ytojnhgeffnjndaa.T
open Go Go.RowKit Mem Go.Great Go.Sort Go.Lib
set_option maxRecDepth 100000
set_option maxHeartbeats 8000000
set_option linter.unusedVariables false
set_option linter.unusedSimpArgs false


theorem mid_get {l : List ByteArray} {s : ByteArray} {k j : Nat} {x : ByteArray} (hk : k ≤ l.length) (h : (l.take k ++ s :: l.drop k)[j]? = some x) :
    (j < k ∧ l[j]? = some x) ∨ (j = k ∧ x = s) ∨ (k < j ∧ j < l.length + 1 ∧ (l.drop k)[j - (k + 1)]? = some x) := by
  have htl : (l.take k).length = k := by simp; omega
  rcases Nat.lt_trichotomy j k with hj | rfl | hj
  · left
    rw [List.getElem?_append_left (by omega), List.getElem?_take_of_lt hj] at h
    exact ⟨hj, h⟩
  · right; left
    rw [List.getElem?_append_right (by omega), htl, Nat.sub_self] at h
    simp at h
    exact ⟨rfl, h.symm⟩
  · right; right
    have hlt := (List.getElem?_eq_some_iff.1 h).1
    rw [List.getElem?_append_right (by omega), htl, show j - k = (j - (k + 1)) + 1 by omega, List.getElem?_cons_succ] at h
    refine ⟨hj, ?_, h⟩
    simp at hlt; omega

theorem rd_shift (W : World) (g : Nat) (l : List ByteArray) (s : ByteArray) (k : Nat) (hk : k ≤ l.length) (hsome : ∀ j, j < l.length + 1 → (W.cell? ⟨g, j, none⟩).isSome = true)
    (hlow : ∀ j x, j < k → l[j]? = some x → W.cell? ⟨g, j, none⟩ = some (Value.string x)) : Rd ((W.setCells g (k + 1) (vs (l.drop k))).setCells g k (vs [s])) (some ⟨g, 0, none⟩) (l.take k ++ s :: l.drop k) := by
  have hdl : (vs (l.drop k)).length = l.length - k := by simp [vs]
  have hsl : (vs [s]).length = 1 := rfl
  have hs1 : ∀ j, j < l.length + 1 → ((W.setCells g (k + 1) (vs (l.drop k))).cell? ⟨g, j, none⟩).isSome = true := fun j hj => isSome_setCells g _ (k + 1) W (fun i hi => hsome _ (by omega)) j (hsome j hj)
  refine .inr ⟨g, 0, rfl, fun j x hx => ?_⟩
  rw [Nat.zero_add]
  rcases mid_get hk hx with ⟨hj, h⟩ | ⟨rfl, rfl⟩ | ⟨hj, hj2, h⟩
  · rw [World.cell?_setCells_out g _ k _ ⟨g, j, none⟩ (fun _ _ => .inl hj), World.cell?_setCells_out g _ (k + 1) _ ⟨g, j, none⟩ (fun _ _ => .inl (by show j < k + 1; omega))]
    exact hlow j x hj h
  · have := World.cell?_setCells_in g (vs [x]) j (W.setCells g (j + 1) (vs (l.drop j))) (fun i hi => hs1 _ (by omega)) 0 (by rw [hsl]; omega)
    exact this
  · rw [World.cell?_setCells_out g _ k _ ⟨g, j, none⟩ (fun _ _ => .inr (by show k + (vs [s]).length ≤ j; rw [hsl]; omega))]
    have hi : j - (k + 1) < (vs (l.drop k)).length := by rw [hdl]; omega
    have := World.cell?_setCells_in g (vs (l.drop k)) (k + 1) W (fun i hi => hsome _ (by omega)) (j - (k + 1)) hi
    rw [show k + 1 + (j - (k + 1)) = j by omega] at this
    rw [this]
    have h2 : (vs (l.drop k))[j - (k + 1)]? = some (Value.string x) := by simp only [vs, List.getElem?_map, h, Option.map_some]
    rw [List.getElem?_eq_getElem hi] at h2
    exact h2

theorem rd_shift2 (W : World) (g : Nat) (l : List ByteArray) (s : ByteArray) (k : Nat) (hk : k ≤ l.length) (hsome : ∀ j, j < l.length + 1 → (W.cell? ⟨g, j, none⟩).isSome = true)
    (hlow : ∀ j x, j < k → l[j]? = some x → W.cell? ⟨g, j, none⟩ = some (Value.string x)) : Rd ((W.setCells g k (vs [s])).setCells g (k + 1) (vs (l.drop k))) (some ⟨g, 0, none⟩) (l.take k ++ s :: l.drop k) := by
  have hdl : (vs (l.drop k)).length = l.length - k := by simp [vs]
  have hsl : (vs [s]).length = 1 := rfl
  have hs1 : ∀ j, j < l.length + 1 → ((W.setCells g k (vs [s])).cell? ⟨g, j, none⟩).isSome = true := fun j hj => isSome_setCells g _ k W (fun i hi => hsome _ (by omega)) j (hsome j hj)
  refine .inr ⟨g, 0, rfl, fun j x hx => ?_⟩
  rw [Nat.zero_add]
  rcases mid_get hk hx with ⟨hj, h⟩ | ⟨rfl, rfl⟩ | ⟨hj, hj2, h⟩
  · rw [World.cell?_setCells_out g _ (k + 1) _ ⟨g, j, none⟩ (fun _ _ => .inl (by show j < k + 1; omega)), World.cell?_setCells_out g _ k _ ⟨g, j, none⟩ (fun _ _ => .inl hj)]
    exact hlow j x hj h
  · rw [World.cell?_setCells_out g _ (j + 1) _ ⟨g, j, none⟩ (fun _ _ => .inl (by show j < j + 1; omega))]
    have := World.cell?_setCells_in g (vs [x]) j W (fun i hi => hsome _ (by omega)) 0 (by rw [hsl]; omega)
    exact this
  · have hi : j - (k + 1) < (vs (l.drop k)).length := by rw [hdl]; omega
    have := World.cell?_setCells_in g (vs (l.drop k)) (k + 1) (W.setCells g k (vs [s])) (fun i hi => hs1 _ (by omega)) (j - (k + 1)) hi
    rw [show k + 1 + (j - (k + 1)) = j by omega] at this
    rw [this]
    have h2 : (vs (l.drop k))[j - (k + 1)]? = some (Value.string x) := by simp only [vs, List.getElem?_map, h, Option.map_some]
    rw [List.getElem?_eq_getElem hi] at h2
    exact h2
end Go.Proofs.Ytojnhgeffnjndaa.T
