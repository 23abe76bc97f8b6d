import Derived.Deep.DeepCutAuto
import Derived.Laws.OwnMore
import Derived.OwnWalk
import Derived.Lib.AppendStr
import Derived.Lib.SliceRun
import Derived.Lib.SmallJoins
import Derived.IntWalk
import Derived.WalkMore
import Derived.Lib.OthersKept
import Derived.Deep.LoopGhost
import Derived.Deep.RegionLaw
import Derived.Deep.AppendLies
import Derived.Test.YtfdcacjfngjmdaaDoorProg
import Derived.Test.YtfdcacjfngjmdaaDoorMem
import Derived.Test.YtfdcacjfngjmdaaDoorBlk
import Derived.Test.YtfdcacjfngjmdaaDoorAp
import Derived.Test.YtfdcacjfngjmdaaDoorDm
import Derived.WalkKit
import Derived.Outline
import Derived.WalkLawsBesides
import Derived.Deep.QuietTactic
import Derived.BigQuiet
import Derived.Lib.Hide
import Derived.Handy
import Derived.Deep.RegionHeld3
import Derived.Deep.DrawnRows
import Derived.KernelRfl
import Derived.Great.Walk
import Derived.Test.YtfdcacjfngjmdaaDoorOwn
namespace Go.Proofs.YtfdcacjfngjmdaaDoor.T
open Go Go.RowKit Go.Sort Mem Own
set_option maxRecDepth 100000
set_option maxHeartbeats 1000000
set_option linter.unusedVariables false
set_option linter.unusedSimpArgs false

theorem row_upd : ∀ (r : List It) (j : Nat) (x y : It), r[j]? = some x → ∃ a b, r = a ++ x :: b ∧ r.set j y = a ++ y :: b
  | [], j, x, y, h => by simp at h
  | p :: r, 0, x, y, h => by simp at h; subst h; exact ⟨[], r, rfl, rfl⟩
  | p :: r, j + 1, x, y, h => by
    obtain ⟨a, b, h1, h2⟩ := row_upd r j x y (by simpa using h)
    exact ⟨p :: a, b, by rw [List.cons_append, ← h1], by rw [List.set_cons_succ, h2, List.cons_append]⟩
theorem flat_upd : ∀ (l : List (List It)) (k : Nat) (r : List It) (j : Nat) (x y : It), l[k]? = some r → r[j]? = some x → ∃ a b, l.flatten = a ++ x :: b ∧ (l.set k (r.set j y)).flatten = a ++ y :: b
  | [], k, r, j, x, y, h, _ => by simp at h
  | p :: l, 0, r, j, x, y, h, hj => by
    simp at h; subst h
    obtain ⟨a, b, h1, h2⟩ := row_upd p j x y hj
    refine ⟨a, b ++ l.flatten, ?_, ?_⟩
    · rw [List.flatten_cons, h1, List.append_assoc, List.cons_append]
    · rw [List.set_cons_zero, List.flatten_cons, h2, List.append_assoc, List.cons_append]
  | p :: l, k + 1, r, j, x, y, h, hj => by
    obtain ⟨a, b, h1, h2⟩ := flat_upd l k r j x y (by simpa using h) hj
    refine ⟨p ++ a, b, ?_, ?_⟩
    · rw [List.flatten_cons, h1, List.append_assoc]
    · rw [List.set_cons_succ, List.flatten_cons, h2, List.append_assoc]
theorem Tidy.setv {l : List (List It)} (h : Tidy l) {k j : Nat} {r : List It} {x : It} (hk : l[k]? = some r) (hj : r[j]? = some x) (v : Value) : Tidy (l.set k (r.set j (x.1, v))) := by
  intro i z hz y hy
  rw [List.length_set]
  by_cases hi : k = i
  · subst hi
    rw [List.getElem?_set_self (List.getElem?_eq_some_iff.1 hk).1] at hz
    injection hz with hz; subst hz
    rcases List.mem_or_eq_of_mem_set hy with hy | rfl
    · exact h _ _ hk y hy
    · exact h _ _ hk x (List.mem_of_getElem? hj)
  · rw [List.getElem?_set_ne hi] at hz; exact h i z hz y hy
/-- Where upd writes. -/
theorem upd_shape {K : Nat} {m : Dm} (h : Inv K m) {t : ByteArray} (v : Value) (hh : m.has t = true) :
    (∃ k r j x, m.now[k]? = some r ∧ r[j]? = some x ∧ x.1.toList = t.toList ∧ m.upd t v = { m with now := m.now.set k (r.set j (x.1, v)) }) ∨
    (∃ k r j x, m.old[k]? = some r ∧ r[j]? = some x ∧ x.1.toList = t.toList ∧ m.upd t v = { m with old := m.old.set k (r.set j (x.1, v)) }) := by
  have hn4 := h.n4
  by_cases h0 : 0 ≤ ixI (rm m.now t) t
  · obtain ⟨j, hj, he, ht⟩ := ix_pos rfl h0
    have hx : (rm m.now t)[j]? = some (rm m.now t)[j] := List.getElem?_eq_getElem hj
    refine .inl ⟨_, _, j, _, rm_at t (by omega), hx, ht, ?_⟩
    unfold Dm.upd
    rw [ixN_of he.symm]; dsimp only; rw [ixN_of he.symm]; dsimp only; rw [hx]
  · unfold Dm.has at hh
    rw [Bool.or_eq_true, Bool.and_eq_true, decide_eq_true_iff, decide_eq_true_iff, decide_eq_true_iff] at hh
    rcases hh with h1 | ⟨ho, h1⟩
    · exact absurd h1 h0
    obtain ⟨j, hj, he, ht⟩ := ix_pos rfl h1
    have hx : (rm m.old t)[j]? = some (rm m.old t)[j] := List.getElem?_eq_getElem hj
    refine .inr ⟨_, _, j, _, rm_at t ho, hx, ht, ?_⟩
    unfold Dm.upd
    rw [ixN_none (by omega)]; dsimp only; rw [ixN_of he.symm]; dsimp only; rw [hx]
theorem upd_all {K : Nat} {m : Dm} (h : Inv K m) {t : ByteArray} (v : Value) (hh : m.has t = true) (hv : v.oneCell' = true) :
    (∃ a x b, m.all = a ++ x :: b ∧ x.1.toList = t.toList ∧ (m.upd t v).all = a ++ (x.1, v) :: b) ∧ Inv K (m.upd t v) ∧ (m.upd t v).shape = m.shape := by
  have fin : ∀ (m2 : Dm) (a b : List It) (x : It), m.all = a ++ x :: b → m2.all = a ++ (x.1, v) :: b → m2.all.length = m.all.length ∧ (∀ y ∈ m2.all, y.2.oneCell' = true ∧ y.1.size ≤ maxLen) ∧ (m2.all.map fun y => y.1.toList).Nodup := by
    intro m2 a b x e1 e2
    refine ⟨by rw [e1, e2]; simp, fun y hy => ?_, ?_⟩
    · rw [e2] at hy
      rcases List.mem_append.1 hy with hy | hy
      · exact h.one y (by rw [e1]; exact List.mem_append_left _ hy)
      · rcases List.mem_cons.1 hy with rfl | hy
        · exact ⟨hv, (h.one x (by rw [e1]; simp)).2⟩
        · exact h.one y (by rw [e1]; exact List.mem_append_right _ (List.mem_cons_of_mem _ hy))
    · have := h.names
      rw [e1] at this
      rw [e2]
      simpa using this
  rcases upd_shape h v hh with ⟨k, r, j, x, hk, hj, ht, e⟩ | ⟨k, r, j, x, hk, hj, ht, e⟩
  · obtain ⟨a, b, h1, h2⟩ := flat_upd m.now k r j x (x.1, v) hk hj
    have e1 : m.all = a ++ x :: (b ++ m.old.flatten) := by unfold Dm.all; rw [h1, List.append_assoc, List.cons_append]
    have e2 : (m.upd t v).all = a ++ (x.1, v) :: (b ++ m.old.flatten) := by rw [e]; unfold Dm.all; dsimp only; rw [h2, List.append_assoc, List.cons_append]
    obtain ⟨g1, g2, g3⟩ := fin _ _ _ _ e1 e2
    refine ⟨⟨a, x, _, e1, ht, e2⟩, ?_, by rw [e]; simp [Dm.shape]⟩
    rw [e] at g1 g2 g3 ⊢
    exact ⟨by simp only [List.length_set]; exact h.n4, by simp only [List.length_set]; exact h.nK, h.oK, h.mK, by rw [g1]; exact h.count, h.nx, h.nx0, g2, Tidy.setv (l := m.now) h.tidyN hk hj v, h.tidyO, g3, h.emp⟩
  · obtain ⟨a, b, h1, h2⟩ := flat_upd m.old k r j x (x.1, v) hk hj
    have e1 : m.all = (m.now.flatten ++ a) ++ x :: b := by unfold Dm.all; rw [h1, List.append_assoc]
    have e2 : (m.upd t v).all = (m.now.flatten ++ a) ++ (x.1, v) :: b := by rw [e]; unfold Dm.all; dsimp only; rw [h2, List.append_assoc]
    obtain ⟨g1, g2, g3⟩ := fin _ _ _ _ e1 e2
    have hkl : k < m.old.length := (List.getElem?_eq_some_iff.1 hk).1
    have hne : m.old ≠ [] := fun e => by rw [e] at hkl; simp at hkl
    refine ⟨⟨_, x, _, e1, ht, e2⟩, ?_, by rw [e]; simp [Dm.shape]⟩
    rw [e] at g1 g2 g3 ⊢
    refine ⟨h.n4, h.nK, by simp only [List.length_set]; exact h.oK, h.mK, by rw [g1]; exact h.count, fun _ => by simp only [List.length_set]; exact h.nx hne, fun e0 => ?_, g2, h.tidyN, Tidy.setv (l := m.old) h.tidyO hk hj v, g3, fun i hi => ?_⟩
    · have : (m.old.set k (r.set j (x.1, v))).length = 0 := by
        have e1 : m.old.set k (r.set j (x.1, v)) = [] := e0
        rw [e1]; rfl
      rw [List.length_set] at this; omega
    · have hi' := h.emp i hi
      have hik : k ≠ i := fun e5 => by
        subst e5
        rw [hk] at hi'; injection hi' with hi'; subst hi'; simp at hj
      show (m.old.set k (r.set j (x.1, v)))[i]? = some []
      rw [List.getElem?_set_ne hik]; exact hi'
theorem upd_get {K : Nat} {m : Dm} (h : Inv K m) {t : ByteArray} (v : Value) (hh : m.has t = true) (hv : v.oneCell' = true) (s : ByteArray) : (m.upd t v).get s = if t.toList = s.toList then some v else m.get s := by
  obtain ⟨⟨a, x, b, e1, ht, e2⟩, hi, -⟩ := upd_all h v hh hv
  by_cases e : t.toList = s.toList
  · rw [if_pos e]
    exact hi.get_mem (x := (x.1, v)) (by rw [e2]; simp) (by rw [← e]; exact ht)
  · rw [if_neg e]
    by_cases hx : ∃ y ∈ m.all, y.1.toList = s.toList
    · obtain ⟨y, hy, hs⟩ := hx
      rw [h.get_mem hy hs]
      refine hi.get_mem (x := y) ?_ hs
      rw [e1] at hy
      rw [e2]
      rcases List.mem_append.1 hy with hy | hy
      · exact List.mem_append_left _ hy
      · rcases List.mem_cons.1 hy with rfl | hy
        · exact absurd (ht.symm.trans hs) e
        · exact List.mem_append_right _ (List.mem_cons_of_mem _ hy)
    · rw [get_none (fun y hy ht => hx ⟨y, hy, ht⟩), get_none (fun y hy hs => by
        rw [e2] at hy
        rcases List.mem_append.1 hy with hy | hy
        · exact hx ⟨y, by rw [e1]; exact List.mem_append_left _ hy, hs⟩
        · rcases List.mem_cons.1 hy with rfl | hy
          · exact e (ht.symm.trans hs)
          · exact hx ⟨y, by rw [e1]; exact List.mem_append_right _ (List.mem_cons_of_mem _ hy), hs⟩)]
/-- Put, plainly. -/
theorem put_get {K : Nat} {m : Dm} (h : Inv K m) {t : ByteArray} (v : Value) (hv : v.oneCell' = true) (ht : t.size ≤ maxLen) :
    Inv (K + 1) (m.put t v) ∧ ∀ s, (m.put t v).get s = if t.toList = s.toList then some v else m.get s := by
  cases hh : m.has t with
  | false => exact ⟨(put_new h hh hv ht).2, put_new_get h hh hv ht⟩
  | true =>
    have e : m.put t v = m.upd t v := by unfold Dm.put; rw [if_pos hh]
    rw [e]
    exact ⟨(upd_all h v hh hv).2.1.mono (by omega), upd_get h v hh hv⟩
end Go.Proofs.YtfdcacjfngjmdaaDoor.T
