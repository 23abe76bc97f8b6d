import Derived.Deep.DeepCutAuto
import Derived.Laws.OwnMore
import Derived.OwnWalk
import Derived.Lib.AppendStr
import Derived.Lib.SliceRun
import Derived.Lib.SmallJoins
import Derived.IntWalk
import Derived.WalkMore
import Derived.Lib.OthersKept
import Derived.Deep.LoopGhost
import Derived.Deep.RegionLaw
import Derived.Deep.AppendLies
import Derived.Test.YtfdcacjfngjmdaaDoorProg
import Derived.Test.YtfdcacjfngjmdaaDoorMem
import Derived.Test.YtfdcacjfngjmdaaDoorBlk
import Derived.Test.YtfdcacjfngjmdaaDoorAp
import Derived.Test.YtfdcacjfngjmdaaDoorDl
import Derived.WalkKit
import Derived.Outline
import Derived.WalkLawsBesides
import Derived.Deep.QuietTactic
import Derived.BigQuiet
import Derived.Lib.Hide
import Derived.Handy
import Derived.Deep.RegionHeld3
import Derived.Deep.DrawnRows
import Derived.KernelRfl
import Derived.Great.Walk
import Derived.Test.YtfdcacjfngjmdaaDoorOwn
namespace Go.Proofs.YtfdcacjfngjmdaaDoor.T
open Go Go.RowKit Go.Sort Mem Own
set_option maxRecDepth 100000
set_option maxHeartbeats 1000000
set_option linter.unusedVariables false
set_option linter.unusedSimpArgs false

/-- has, by what lies there. -/
theorem has_no {K : Nat} {m : Dm} (h : Inv K m) {t : ByteArray} (hh : m.has t = false) : ∀ x ∈ m.all, x.1.toList ≠ t.toList := by
  unfold Dm.has at hh
  rw [Bool.or_eq_false_iff, decide_eq_false_iff_not, Bool.and_eq_false_iff, decide_eq_false_iff_not, decide_eq_false_iff_not] at hh
  obtain ⟨h1, h2⟩ := hh
  intro x hx ht
  unfold Dm.all at hx
  rcases List.mem_append.1 hx with hx | hx
  · exact ix_neg (by omega) x (in_room h.tidyN hx ht) ht
  · rcases h2 with h2 | h2
    · have ho : m.old = [] := List.eq_nil_of_length_eq_zero (by omega)
      rw [ho] at hx; simp at hx
    · exact ix_neg (by omega) x (in_room h.tidyO hx ht) ht
theorem has_yes {m : Dm} (hn : 0 < m.now.length) {t : ByteArray} (hh : m.has t = true) : ∃ x ∈ m.all, x.1.toList = t.toList := by
  unfold Dm.has at hh
  rw [Bool.or_eq_true, Bool.and_eq_true, decide_eq_true_iff, decide_eq_true_iff, decide_eq_true_iff] at hh
  rcases hh with h0 | ⟨ho, h0⟩
  · obtain ⟨j, hj, -, ht⟩ := ix_pos rfl h0
    exact ⟨_, List.mem_append_left _ (rm_mem _ (List.getElem_mem hj)), ht⟩
  · obtain ⟨j, hj, -, ht⟩ := ix_pos rfl h0
    exact ⟨_, List.mem_append_right _ (rm_mem _ (List.getElem_mem hj)), ht⟩
theorem has_get {K : Nat} {m : Dm} (h : Inv K m) (t : ByteArray) : m.has t = (m.get t).isSome := by
  cases hh : m.has t with
  | true =>
    obtain ⟨x, hx, ht⟩ := has_yes (by have := h.n4; omega) hh
    rw [h.get_mem hx ht]; rfl
  | false => rw [get_none (has_no h hh)]; rfl
theorem not_has {K : Nat} {m : Dm} (h : Inv K m) {t : ByteArray} (hno : ∀ x ∈ m.all, x.1.toList ≠ t.toList) : m.has t = false := by
  cases hh : m.has t with
  | false => rfl
  | true =>
    obtain ⟨x, hx, ht⟩ := has_yes (by have := h.n4; omega) hh
    exact absurd ht (hno x hx)
/-- A new name: what is there behind Put. -/
theorem put_new {K : Nat} {m : Dm} (h : Inv K m) {t : ByteArray} {v : Value} (hh : m.has t = false) (hv : v.oneCell' = true) (ht : t.size ≤ maxLen) : (m.put t v).all.Perm ((t, v) :: m.all) ∧ Inv (K + 1) (m.put t v) := by
  have hn4 := h.n4
  have hp := addR_perm (l := m.now) (t, v) (by omega)
  have hno := has_no h hh
  have nod : (((t, v) :: m.all).map fun x => x.1.toList).Nodup := by
    rw [List.map_cons, List.nodup_cons]
    refine ⟨fun hm => ?_, h.names⟩
    obtain ⟨x, hx, e⟩ := List.mem_map.1 hm
    exact hno x hx e
  have one : ∀ x ∈ (t, v) :: m.all, x.2.oneCell' = true ∧ x.1.size ≤ maxLen := fun x hx => by
    rcases List.mem_cons.1 hx with rfl | hx
    · exact ⟨hv, ht⟩
    · exact h.one x hx
  have hall : List.Perm ((addR m.now (t, v)).flatten ++ m.old.flatten) ((t, v) :: m.all) := hp.append_right _
  have hrep : ∀ n : Nat, (List.replicate n ([] : List It)).flatten = [] := fun n => flat_nil fun r hr => List.eq_of_mem_replicate hr
  unfold Dm.put
  rw [if_neg (by rw [hh]; decide)]
  by_cases hg : m.old.length = 0 ∧ m.now.length < m.many + 1
  · rw [if_pos hg]
    have ho : m.old = [] := List.eq_nil_of_length_eq_zero hg.1
    have hperm : (⟨List.replicate (2 * m.now.length) [], addR m.now (t, v), m.next, m.many + 1⟩ : Dm).all.Perm ((t, v) :: m.all) := by
      unfold Dm.all
      dsimp only
      rw [hrep, List.nil_append]
      rw [ho, List.flatten_nil, List.append_nil] at hall
      exact hall
    have hmk := h.mK
    have hnK := h.nK
    refine ⟨hperm, ⟨by simp; omega, by simp; omega, by simp [addR_len]; omega, by simp; omega, by rw [hperm.length_eq, List.length_cons, ← h.count], fun _ => by simp [addR_len, h.nx0 ho]; omega, fun e => ?_, fun x hx => one x (hperm.mem_iff.1 hx), fun k l hl x hx => ?_, Tidy.addR (l := m.now) h.tidyN (by omega) _, (hperm.map _).nodup_iff.2 nod, fun k hk => ?_⟩⟩
    · exact h.nx0 ho
    · have := List.eq_of_mem_replicate (List.mem_of_getElem? hl)
      rw [this] at hx; simp at hx
    · dsimp only at hk; rw [h.nx0 ho] at hk; omega
  · rw [if_neg hg]
    have hperm : ({ m with now := addR m.now (t, v), many := m.many + 1 } : Dm).all.Perm ((t, v) :: m.all) := hall
    exact ⟨hperm, ⟨by simp only [addR_len]; exact hn4, by simp only [addR_len]; have := h.nK; omega, by have := h.oK; simp only; omega, by have := h.mK; simp only; omega, by rw [hperm.length_eq, List.length_cons, ← h.count], h.nx, h.nx0, fun x hx => one x (hperm.mem_iff.1 hx), Tidy.addR (l := m.now) h.tidyN (by omega) _, h.tidyO, (hperm.map _).nodup_iff.2 nod, h.emp⟩⟩
theorem put_new_get {K : Nat} {m : Dm} (h : Inv K m) {t : ByteArray} {v : Value} (hh : m.has t = false) (hv : v.oneCell' = true) (ht : t.size ≤ maxLen) (s : ByteArray) : (m.put t v).get s = if t.toList = s.toList then some v else m.get s := by
  obtain ⟨hp, hi⟩ := put_new h hh hv ht
  by_cases e : t.toList = s.toList
  · rw [if_pos e]
    exact hi.get_mem (hp.mem_iff.2 (List.mem_cons_self ..)) e
  · rw [if_neg e]
    by_cases hx : ∃ x ∈ m.all, x.1.toList = s.toList
    · obtain ⟨x, hx, hs⟩ := hx
      rw [h.get_mem hx hs, hi.get_mem (hp.mem_iff.2 (List.mem_cons_of_mem _ hx)) hs]
    · rw [get_none (fun x hx' ht => hx ⟨x, hx', ht⟩), get_none (fun x hx' hs => by
        rcases List.mem_cons.1 (hp.mem_iff.1 hx') with rfl | hx'
        · exact e hs
        · exact hx ⟨x, hx', hs⟩)]
end Go.Proofs.YtfdcacjfngjmdaaDoor.T
