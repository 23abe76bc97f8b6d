import Derived.Deep.DeepCutAuto
import Derived.Laws.OwnMore
import Derived.OwnWalk
import Derived.Lib.AppendStr
import Derived.Lib.SliceRun
import Derived.Lib.SmallJoins
import Derived.IntWalk
import Derived.WalkMore
import Derived.Lib.OthersKept
import Derived.Deep.LoopGhost
import Derived.Deep.RegionLaw
import Derived.Deep.AppendLies
import Derived.Test.YtfdcacjfngjmdaaDoorProg
import Derived.Test.YtfdcacjfngjmdaaDoorMem
import Derived.Test.YtfdcacjfngjmdaaDoorBlk
import Derived.Test.YtfdcacjfngjmdaaDoorAp
import Derived.Test.YtfdcacjfngjmdaaDoorDk
import Derived.WalkKit
import Derived.Outline
import Derived.WalkLawsBesides
import Derived.Deep.QuietTactic
import Derived.BigQuiet
import Derived.Lib.Hide
import Derived.Handy
import Derived.Deep.RegionHeld3
import Derived.Deep.DrawnRows
import Derived.KernelRfl
import Derived.Great.Walk
import Derived.Test.YtfdcacjfngjmdaaDoorOwn
namespace Go.Proofs.YtfdcacjfngjmdaaDoor.T
open Go Go.RowKit Go.Sort Mem Own
set_option maxRecDepth 100000
set_option maxHeartbeats 1000000
set_option linter.unusedVariables false
set_option linter.unusedSimpArgs false

/-- Each name lies in its own room. -/
def Tidy (l : List (List It)) : Prop := ∀ k r, l[k]? = some r → ∀ x ∈ r, hsh x.1 % l.length = k
theorem Tidy.addR {l : List (List It)} (h : Tidy l) (hl : 0 < l.length) (x : It) : Tidy (addR l x) := by
  intro k r hr y hy
  rw [addR_len]
  unfold Go.Proofs.YtfdcacjfngjmdaaDoor.T.addR at hr
  by_cases hk : hsh x.1 % l.length = k
  · subst hk
    rw [List.getElem?_set_self (Nat.mod_lt _ hl)] at hr
    injection hr with hr; subst hr
    rcases List.mem_append.1 hy with hy | hy
    · exact h _ _ (rm_at x.1 hl) y hy
    · rw [List.mem_singleton.1 hy]
  · rw [List.getElem?_set_ne hk] at hr
    exact h k r hr y hy
theorem Tidy.addAll : ∀ (r : List It) {l : List (List It)} (h : Tidy l) (hl : 0 < l.length), Tidy (addAll l r)
  | [], l, h, _ => h
  | x :: r, l, h, hl => Tidy.addAll r (l := Go.Proofs.YtfdcacjfngjmdaaDoor.T.addR l x) (h.addR hl x) (by rw [addR_len]; exact hl)
theorem Tidy.clear {l : List (List It)} (h : Tidy l) (k : Nat) : Tidy (l.set k []) := by
  intro j r hr y hy
  rw [List.length_set]
  by_cases hj : k = j
  · subst hj
    rcases Nat.lt_or_ge k l.length with h1 | h1
    · rw [List.getElem?_set_self h1] at hr; injection hr with hr; subst hr; simp at hy
    · rw [List.getElem?_eq_none (by rw [List.length_set]; exact h1)] at hr; cases hr
  · rw [List.getElem?_set_ne hj] at hr; exact h j r hr y hy
theorem flat_clear : ∀ (l : List (List It)) (k : Nat) (r : List It), l[k]? = some r → (r ++ (l.set k []).flatten).Perm l.flatten
  | [], k, r, h => by simp at h
  | a :: l, 0, r, h => by simp at h; subst h; simp
  | a :: l, k + 1, r, h => by
    simp only [List.set_cons_succ, List.flatten_cons]
    have := (flat_clear l k r (by simpa using h)).append_left a
    refine List.Perm.trans ?_ this
    rw [← List.append_assoc, ← List.append_assoc]
    exact List.perm_append_comm.append_right _
theorem flat_nil {l : List (List It)} (h : ∀ r ∈ l, r = []) : l.flatten = [] := List.flatten_eq_nil_iff.2 h
theorem Inv.row {K : Nat} {m : Dm} (h : Inv K m) (ho : 0 < m.old.length) : ∃ r, m.old[m.next]? = some r ∧ m.old.getD m.next [] = r := by
  have hn := h.nx (fun e => by rw [e] at ho; simp at ho)
  refine ⟨m.old[m.next], List.getElem?_eq_getElem hn, ?_⟩
  rw [List.getD_eq_getElem?_getD, List.getElem?_eq_getElem hn]; rfl
theorem step_all {K : Nat} {m : Dm} (h : Inv K m) : m.step.all.Perm m.all := by
  unfold Dm.step
  by_cases ho : m.old.length = 0
  · rw [if_pos ho]
  · rw [if_neg ho]
    obtain ⟨r, h1, h2⟩ := h.row (by omega)
    have h3 := addAll_perm r (l := m.now) (by have := h.n4; omega)
    have h4 := flat_clear m.old m.next r h1
    rw [h2]
    by_cases he : m.next + 1 = m.old.length
    · rw [if_pos he]
      have h5 : (m.old.set m.next []).flatten = [] := flat_nil fun q hq => by
        obtain ⟨j, hj, rfl⟩ := List.getElem_of_mem hq
        rw [List.length_set] at hj
        by_cases hjn : m.next = j
        · subst hjn; simp
        · have h6 := h.emp j (by omega)
          rw [List.getElem_set_ne hjn]
          rw [List.getElem?_eq_getElem hj] at h6
          injection h6
      rw [h5, List.append_nil] at h4
      unfold Dm.all
      dsimp only
      rw [List.flatten_nil, List.append_nil]
      exact h3.trans ((h4.append_right _).trans List.perm_append_comm)
    · rw [if_neg he]
      unfold Dm.all
      dsimp only
      refine (h3.append_right _).trans ?_
      refine List.Perm.trans ?_ (h4.append_left m.now.flatten)
      rw [← List.append_assoc]
      exact List.perm_append_comm.append_right _
theorem Inv.step {K : Nat} {m : Dm} (h : Inv K m) : Inv K m.step := by
  have hp := step_all h
  by_cases ho : m.old.length = 0
  · have : m.step = m := by unfold Dm.step; rw [if_pos ho]
    rw [this]; exact h
  obtain ⟨r, h1, h2⟩ := h.row (by omega)
  have hlt : m.next < m.old.length := (List.getElem?_eq_some_iff.1 h1).1
  have hn4 := h.n4
  have common : m.step.now = addAll m.now r ∧ m.step.many = m.many := by
    unfold Dm.step; rw [if_neg ho, h2]; by_cases he : m.next + 1 = m.old.length
    · rw [if_pos he]; exact ⟨rfl, rfl⟩
    · rw [if_neg he]; exact ⟨rfl, rfl⟩
  have hold : (m.step.old = [] ∧ m.step.next = 0) ∨ (m.step.old = m.old.set m.next [] ∧ m.step.next = m.next + 1 ∧ m.next + 1 < m.old.length) := by
    unfold Dm.step; rw [if_neg ho]; by_cases he : m.next + 1 = m.old.length
    · rw [if_pos he]; exact .inl ⟨rfl, rfl⟩
    · rw [if_neg he]; exact .inr ⟨rfl, rfl, by omega⟩
  obtain ⟨c1, c2⟩ := common
  refine ⟨by rw [c1, addAll_len]; exact hn4, by rw [c1, addAll_len]; exact h.nK, ?_, by rw [c2]; exact h.mK, by rw [c2, hp.length_eq]; exact h.count, ?_, ?_, fun x hx => h.one x (hp.mem_iff.1 hx), ?_, ?_, (hp.map _).nodup_iff.2 h.names, ?_⟩
  · rcases hold with ⟨e, -⟩ | ⟨e, -, -⟩
    · rw [e]; exact Nat.zero_le _
    · rw [e, List.length_set]; exact h.oK
  · intro hne
    rcases hold with ⟨e, -⟩ | ⟨e, e2, e3⟩
    · exact absurd e hne
    · rw [e, e2, List.length_set]; exact e3
  · intro he
    rcases hold with ⟨-, e⟩ | ⟨e, e2, e3⟩
    · exact e
    · have : (m.old.set m.next []).length = 0 := by rw [← e, he]; rfl
      rw [List.length_set] at this; omega
  · rw [c1]; exact Tidy.addAll r (l := m.now) h.tidyN (by omega)
  · rcases hold with ⟨e, -⟩ | ⟨e, -, -⟩
    · rw [e]; intro k l hl; simp at hl
    · rw [e]; exact Tidy.clear (l := m.old) h.tidyO m.next
  · rcases hold with ⟨-, e⟩ | ⟨e, e2, e3⟩
    · rw [e]; intro k hk; omega
    · rw [e, e2]
      intro k hk
      by_cases hkn : m.next = k
      · rw [← hkn, List.getElem?_set_self hlt]
      · rw [List.getElem?_set_ne hkn]; exact h.emp k (by omega)
theorem get_perm {K : Nat} {m m' : Dm} (h : Inv K m) {K' : Nat} (h' : Inv K' m') (hp : m'.all.Perm m.all) (t : ByteArray) : m'.get t = m.get t := by
  by_cases hx : ∃ x ∈ m.all, x.1.toList = t.toList
  · obtain ⟨x, hx, ht⟩ := hx
    rw [h.get_mem hx ht, h'.get_mem (hp.mem_iff.2 hx) ht]
  · rw [get_none (fun x hx' ht => hx ⟨x, hx', ht⟩), get_none (fun x hx' ht => hx ⟨x, hp.mem_iff.1 hx', ht⟩)]
theorem step_get {K : Nat} {m : Dm} (h : Inv K m) (t : ByteArray) : m.step.get t = m.get t := get_perm h h.step (step_all h) t
theorem Inv.new : Inv 0 Dm.new := by
  refine ⟨by decide, by decide, by decide, by decide, by rfl, fun h => absurd rfl h, fun _ => rfl, fun x hx => ?_, fun k l hl x hx => ?_, fun k l hl => by simp [Dm.new] at hl, ?_, fun k hk => by simp [Dm.new] at hk⟩
  · simp [Dm.all, Dm.new, List.replicate] at hx
  · have : l = [] := by
      have := List.mem_of_getElem? hl
      exact List.eq_of_mem_replicate this
    rw [this] at hx; simp at hx
  · simp [Dm.all, Dm.new, List.replicate]
theorem Inv.mono {K K' : Nat} {m : Dm} (h : Inv K m) (hk : K ≤ K') : Inv K' m :=
  ⟨h.n4, by have := h.nK; omega, by have := h.oK; omega, by have := h.mK; omega, h.count, h.nx, h.nx0, h.one, h.tidyN, h.tidyO, h.names, h.emp⟩
end Go.Proofs.YtfdcacjfngjmdaaDoor.T
