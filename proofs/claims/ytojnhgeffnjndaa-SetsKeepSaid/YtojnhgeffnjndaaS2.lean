import Derived.Test.YtojnhgeffnjndaaProg
import Derived.Test.YtojnhgeffnjndaaS1
import Derived.WalkKit
import Derived.Outline
import Derived.WalkLawsBesides
import Derived.Deep.QuietTactic
import Derived.BigQuiet
import Derived.Lib.Hide
import Derived.Handy
import Derived.Deep.RegionHeld3
import Derived.Deep.DrawnRows
import Derived.Sort.Walk0
import Derived.Great.Walk
import Derived.OneCell
import Derived.OwnWalk
import Derived.Laws.OwnMore
namespace Go.Proofs.Ytojnhgeffnjndaa.T
open Go Go.RowKit Mem Go.Great
set_option maxRecDepth 100000
set_option maxHeartbeats 8000000
set_option linter.unusedVariables false
set_option linter.unusedSimpArgs false

abbrev vs (l : List ByteArray) : List Value := l.map Value.string
theorem vs_one (l : List ByteArray) : ∀ u ∈ vs l, u.oneCell' = true := by
  intro u hu; obtain ⟨x, _, rfl⟩ := List.mem_map.1 hu; rfl
theorem info9 : (Try.prog.info? 9).map (fun i => (i.zero, i.size, i.bytes)) = some (some (.string ByteArray.empty), 1, 16) := by kernel_rfl

theorem alloc_size (w : World) (o : Obj) : (w.alloc o).heap.size = w.heap.size + 1 := by show (w.heap.push o).size = _; simp
theorem own_ne {w : World} {g n : Nat} {v : Value} {xs : List Value} (h : w.ownsRow (g + 1) 9 1 v n xs) : v.ownBlock ≠ some g := by
  intro e; have := h.lt g e; omega
theorem own_slice {w : World} {B n : Nat} {v : Value} {xs : List Value} (h : w.ownsRow B 9 1 v n xs) : ∃ A c, v = .slice A n c := by
  rcases h.2 with ⟨rfl, rfl⟩ | ⟨g, cap, cur, rfl, _⟩
  · exact ⟨none, 0, rfl⟩
  · exact ⟨_, _, rfl⟩
theorem own_lt {w : World} {B n : Nat} {v : Value} {xs : List Value} (h : w.ownsRow B 9 1 v n xs) : ∀ k, v.ownBlock = some k → B ≤ k := fun k hk => (h.lt k hk).1

/-- The captured list: at block g lies a slice that owns the texts acc. -/
def Acc (g : Nat) (acc : List ByteArray) (w : World) : Prop := ∃ v, w.heap[g]? = some (.cells #[v] 22 (0, 0)) ∧ w.ownsRow (g + 1) 9 1 v acc.length (vs acc)
theorem Acc.drewN {g : Nat} {acc : List ByteArray} {w : World} (h : Acc g acc w) (q : Nat) : Acc g acc (w.drewN q) := h
theorem Acc.lt {g : Nat} {acc : List ByteArray} {w : World} (h : Acc g acc w) : g < w.heap.size := by obtain ⟨v, h, _⟩ := h; exact lt_of_block h

theorem acc_push {g : Nat} {acc : List ByteArray} {s : ByteArray} {w w1 : World} {v v' : Value} {o : Obj} (hv : w.heap[g]? = some (.cells #[v] 22 (0, 0))) (hown : w.ownsRow (g + 1) 9 1 v acc.length (vs acc))
    (h1 : w1.ownsRow (g + 1) 9 1 v' (acc.length + 1) (vs acc ++ [.string s])) (hg : (w.alloc o).grownBy w1 v.ownBlock) :
    w1.heap[g]? = some (.cells #[v] 22 (0, 0)) ∧ Acc g (acc ++ [s]) (w1.setCell ⟨g, 0, none⟩ v') ∧ Below g w (w1.setCell ⟨g, 0, none⟩ v') := by
  have hlt := lt_of_block hv
  have hsz : g < (w.alloc o).heap.size := by rw [alloc_size]; omega
  have hw1 : w1.heap[g]? = some (.cells #[v] 22 (0, 0)) := by
    rw [hg.block g hsz (fun e => own_ne hown e.symm), Below.heap_alloc w o g hlt]; exact hv
  refine ⟨hw1, ⟨v', one_setCell hw1, ?_⟩, ?_⟩
  · have := ownsRow_setCell_below h1 (a := ⟨g, 0, none⟩) (by show g < g + 1; omega) v'
    simpa [vs] using this
  · exact ((((Below.refl g w).alloc (by omega) o).grown hg (by omega) (fun k hk => by have := own_lt hown k hk; omega))).setCell (p := ⟨g, 0, none⟩) (Nat.le_refl _) v'

theorem union_tell (g : Nat) (acc : List ByteArray) (s : ByteArray) (f t : Bool) (w : World) (h : Acc g acc w) (hn : acc.length < 2 ^ 42) :
    Calls Try.prog 33 #[.string s, .bool f, .bool t, .pointer (some ⟨g, 0, none⟩)] w fun e w' => e = .returned (.tuple #[]) ∧ Acc g (acc ++ [s]) w' ∧ Below g w w' := by
  obtain ⟨v, hv, hown⟩ := h
  obtain ⟨i0, hi, hz0, hz1, hz2⟩ := info_parts info9
  have hc := cell_of_one hv
  have HV := Lib.hid hv; have HO := Lib.hid hown
  clear hv hown
  go_enter Try.func33, Try.ntmps33
  go_wp2_with (at_builtin; refine wpList_append_own _ rfl (.tmp 7) (.tmp 9) 22 rfl (g + 1) 9 i0 _ 1 16 Try.underlying22 hi hz0 hz1 hz2 rfl (by decide) v acc.length (vs acc) rfl (HO.out.alloc _) ⟨w.heap.size, 0, none⟩ 1 1 [.string s] rfl rfl (by intro j u hj; cases j with | zero => (simp at hj; subst hj; simp [Addr.add]) | succ => simp at hj) (by intro u hu; simp at hu; subst hu; rfl) (by unfold maxLen; omega) (by omega) (by have := lt_of_block HV.out; rw [alloc_size]; omega) ?_; intro v1 w1 hown1 hg1 _; obtain ⟨A1, c1, rfl⟩ := own_slice hown1; have R := Lib.hid (acc_push HV.out HO.out hown1 hg1); have hc1 := cell_of_one R.out.1; have hf1 := free_of_one R.out.1; clear hown1 hg1)
  exact bodyPost_end0 rfl rfl ⟨rfl, R.out.2.1, R.out.2.2⟩

theorem meet_tell (g : Nat) (acc : List ByteArray) (s : ByteArray) (f t : Bool) (w : World) (h : Acc g acc w) (hn : acc.length < 2 ^ 42) :
    Calls Try.prog 34 #[.string s, .bool f, .bool t, .pointer (some ⟨g, 0, none⟩)] w fun e w' => e = .returned (.tuple #[]) ∧ Acc g (if (f && t) = true then acc ++ [s] else acc) w' ∧ Below g w w' := by
  have HH := Lib.hid h
  obtain ⟨v, hv, hown⟩ := h
  obtain ⟨i0, hi, hz0, hz1, hz2⟩ := info_parts info9
  have hc := cell_of_one hv
  have HV := Lib.hid hv; have HO := Lib.hid hown
  clear hv hown
  go_enter Try.func34, Try.ntmps34
  cases f <;> cases t
  all_goals go_wp2_with (at_builtin; refine wpList_append_own _ rfl _ _ 22 rfl (g + 1) 9 i0 _ 1 16 Try.underlying22 hi hz0 hz1 hz2 rfl (by decide) v acc.length (vs acc) rfl (HO.out.alloc _) ⟨w.heap.size, 0, none⟩ 1 1 [.string s] rfl rfl (by intro j u hj; cases j with | zero => (simp at hj; subst hj; simp [Addr.add]) | succ => simp at hj) (by intro u hu; simp at hu; subst hu; rfl) (by unfold maxLen; omega) (by omega) (by have := lt_of_block HV.out; rw [alloc_size]; omega) ?_; intro v1 w1 hown1 hg1 _; obtain ⟨A1, c1, rfl⟩ := own_slice hown1; have R := Lib.hid (acc_push HV.out HO.out hown1 hg1); have hc1 := cell_of_one R.out.1; have hf1 := free_of_one R.out.1; clear hown1 hg1)
  all_goals first | (exact bodyPost_end0 rfl rfl ⟨rfl, R.out.2.1, R.out.2.2⟩) | (exact bodyPost_end0 rfl rfl ⟨rfl, HH.out, Below.refl _ _⟩)

theorem less_tell (g : Nat) (acc : List ByteArray) (s : ByteArray) (f t : Bool) (w : World) (h : Acc g acc w) (hn : acc.length < 2 ^ 42) :
    Calls Try.prog 35 #[.string s, .bool f, .bool t, .pointer (some ⟨g, 0, none⟩)] w fun e w' => e = .returned (.tuple #[]) ∧ Acc g (if (f && !t) = true then acc ++ [s] else acc) w' ∧ Below g w w' := by
  have HH := Lib.hid h
  obtain ⟨v, hv, hown⟩ := h
  obtain ⟨i0, hi, hz0, hz1, hz2⟩ := info_parts info9
  have hc := cell_of_one hv
  have HV := Lib.hid hv; have HO := Lib.hid hown
  clear hv hown
  go_enter Try.func35, Try.ntmps35
  cases f <;> cases t
  all_goals go_wp2_with (at_builtin; refine wpList_append_own _ rfl _ _ 22 rfl (g + 1) 9 i0 _ 1 16 Try.underlying22 hi hz0 hz1 hz2 rfl (by decide) v acc.length (vs acc) rfl (HO.out.alloc _) ⟨w.heap.size, 0, none⟩ 1 1 [.string s] rfl rfl (by intro j u hj; cases j with | zero => (simp at hj; subst hj; simp [Addr.add]) | succ => simp at hj) (by intro u hu; simp at hu; subst hu; rfl) (by unfold maxLen; omega) (by omega) (by have := lt_of_block HV.out; rw [alloc_size]; omega) ?_; intro v1 w1 hown1 hg1 _; obtain ⟨A1, c1, rfl⟩ := own_slice hown1; have R := Lib.hid (acc_push HV.out HO.out hown1 hg1); have hc1 := cell_of_one R.out.1; have hf1 := free_of_one R.out.1; clear hown1 hg1)
  all_goals first | (exact bodyPost_end0 rfl rfl ⟨rfl, R.out.2.1, R.out.2.2⟩) | (exact bodyPost_end0 rfl rfl ⟨rfl, HH.out, Below.refl _ _⟩)

/-- The captured yes or no. -/
def Bit (g : Nat) (x : Bool) (w : World) : Prop := w.heap[g]? = some (.cells #[.bool x] 4 (0, 0))
theorem inside_tell (g : Nat) (x : Bool) (s : ByteArray) (f t : Bool) (w : World) (h : Bit g x w) :
    Calls Try.prog 36 #[.string s, .bool f, .bool t, .pointer (some ⟨g, 0, none⟩)] w fun e w' => e = .returned (.tuple #[]) ∧ Bit g (x && (!f || t)) w' ∧ Below g w w' := by
  have HH := Lib.hid h
  have hc := cell_of_one h
  have hf := free_of_one h
  unfold Bit at h
  clear h
  go_enter Try.func36, Try.ntmps36
  cases x <;> cases f <;> cases t
  all_goals go_wp2
  all_goals exact bodyPost_end0 rfl rfl ⟨rfl, one_setCell HH.out, (Below.refl _ _).setCell (p := ⟨g, 0, none⟩) (Nat.le_refl _) _⟩
end Go.Proofs.Ytojnhgeffnjndaa.T
