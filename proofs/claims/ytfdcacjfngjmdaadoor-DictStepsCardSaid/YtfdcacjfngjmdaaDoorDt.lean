import Derived.Deep.DeepCutAuto
import Derived.Laws.OwnMore
import Derived.OwnWalk
import Derived.Lib.AppendStr
import Derived.Lib.SliceRun
import Derived.Lib.SmallJoins
import Derived.IntWalk
import Derived.WalkMore
import Derived.Lib.OthersKept
import Derived.Deep.LoopGhost
import Derived.Deep.RegionLaw
import Derived.Deep.AppendLies
import Derived.Test.YtfdcacjfngjmdaaDoorProg
import Derived.Test.YtfdcacjfngjmdaaDoorMem
import Derived.Test.YtfdcacjfngjmdaaDoorBlk
import Derived.Test.YtfdcacjfngjmdaaDoorAp
import Derived.Test.YtfdcacjfngjmdaaDoorDr
import Derived.Test.YtfdcacjfngjmdaaDoorDn
import Derived.WalkKit
import Derived.Outline
import Derived.WalkLawsBesides
import Derived.Deep.QuietTactic
import Derived.BigQuiet
import Derived.Lib.Hide
import Derived.Handy
import Derived.Deep.RegionHeld3
import Derived.Deep.DrawnRows
import Derived.KernelRfl
import Derived.Great.Walk
import Derived.Test.YtfdcacjfngjmdaaDoorOwn
namespace Go.Proofs.YtfdcacjfngjmdaaDoor.T
open Go Go.RowKit Go.Sort Mem Own
set_option maxRecDepth 100000
set_option maxHeartbeats 1000000
set_option linter.unusedVariables false
set_option linter.unusedSimpArgs false

theorem row_erase : ∀ (r : List It) (j : Nat) (x : It), r[j]? = some x → ∃ a b, r = a ++ x :: b ∧ r.eraseIdx j = a ++ b
  | [], j, x, h => by simp at h
  | p :: r, 0, x, h => by simp at h; subst h; exact ⟨[], r, rfl, rfl⟩
  | p :: r, j + 1, x, h => by
    obtain ⟨a, b, h1, h2⟩ := row_erase r j x (by simpa using h)
    exact ⟨p :: a, b, by rw [List.cons_append, ← h1], by rw [List.eraseIdx_cons_succ, h2, List.cons_append]⟩
theorem flat_erase : ∀ (l : List (List It)) (k : Nat) (r : List It) (j : Nat) (x : It), l[k]? = some r → r[j]? = some x → ∃ a b, l.flatten = a ++ x :: b ∧ (l.set k (r.eraseIdx j)).flatten = a ++ b
  | [], k, r, j, x, h, _ => by simp at h
  | p :: l, 0, r, j, x, h, hj => by
    simp at h; subst h
    obtain ⟨a, b, h1, h2⟩ := row_erase p j x hj
    refine ⟨a, b ++ l.flatten, ?_, ?_⟩
    · rw [List.flatten_cons, h1, List.append_assoc, List.cons_append]
    · rw [List.set_cons_zero, List.flatten_cons, h2, List.append_assoc]
  | p :: l, k + 1, r, j, x, h, hj => by
    obtain ⟨a, b, h1, h2⟩ := flat_erase l k r j x (by simpa using h) hj
    refine ⟨p ++ a, b, ?_, ?_⟩
    · rw [List.flatten_cons, h1, List.append_assoc]
    · rw [List.set_cons_succ, List.flatten_cons, h2, List.append_assoc]
theorem Tidy.erase {l : List (List It)} (h : Tidy l) {k : Nat} {r : List It} (hk : l[k]? = some r) (j : Nat) : Tidy (l.set k (r.eraseIdx j)) := by
  intro i z hz y hy
  rw [List.length_set]
  by_cases hi : k = i
  · subst hi
    rw [List.getElem?_set_self (List.getElem?_eq_some_iff.1 hk).1] at hz
    injection hz with hz; subst hz
    exact h _ _ hk y ((List.eraseIdx_sublist r j).subset hy)
  · rw [List.getElem?_set_ne hi] at hz; exact h i z hz y hy
/-- Where cut cuts. -/
theorem cut_where {K : Nat} {m : Dm} (h : Inv K m) {t : ByteArray} (hh : m.has t = true) :
    (∃ k r j x, m.now[k]? = some r ∧ r[j]? = some x ∧ x.1.toList = t.toList ∧ m.cut t = { m with now := m.now.set k (r.eraseIdx j) }) ∨
    (∃ k r j x, m.old[k]? = some r ∧ r[j]? = some x ∧ x.1.toList = t.toList ∧ m.cut t = { m with old := m.old.set k (r.eraseIdx j) }) := by
  have hn4 := h.n4
  by_cases h0 : 0 ≤ ixI (rm m.now t) t
  · obtain ⟨j, hj, he, ht⟩ := ix_pos rfl h0
    have hx : (rm m.now t)[j]? = some (rm m.now t)[j] := List.getElem?_eq_getElem hj
    refine .inl ⟨_, _, j, _, rm_at t (by omega), hx, ht, ?_⟩
    unfold Dm.cut
    rw [ixN_of he.symm]
  · unfold Dm.has at hh
    rw [Bool.or_eq_true, Bool.and_eq_true, decide_eq_true_iff, decide_eq_true_iff, decide_eq_true_iff] at hh
    rcases hh with h1 | ⟨ho, h1⟩
    · exact absurd h1 h0
    obtain ⟨j, hj, he, ht⟩ := ix_pos rfl h1
    have hx : (rm m.old t)[j]? = some (rm m.old t)[j] := List.getElem?_eq_getElem hj
    refine .inr ⟨_, _, j, _, rm_at t ho, hx, ht, ?_⟩
    unfold Dm.cut
    rw [ixN_none (by omega)]; dsimp only; rw [ixN_of he.symm]
theorem rem_all {K : Nat} {m : Dm} (h : Inv K m) {t : ByteArray} (hh : m.has t = true) :
    (∃ a x b, m.all = a ++ x :: b ∧ x.1.toList = t.toList ∧ (m.rem t).all = a ++ b) ∧ Inv K (m.rem t) := by
  have hall : ∃ a x b, m.all = a ++ x :: b ∧ x.1.toList = t.toList ∧ (m.cut t).all = a ++ b := by
    rcases cut_where h hh with ⟨k, r, j, x, h1, h2, h3, h4⟩ | ⟨k, r, j, x, h1, h2, h3, h4⟩
    · obtain ⟨a, b, e1, e2⟩ := flat_erase _ _ _ _ _ h1 h2
      refine ⟨a, x, b ++ m.old.flatten, ?_, h3, ?_⟩
      · unfold Dm.all; rw [e1, List.append_assoc, List.cons_append]
      · rw [h4]; unfold Dm.all; dsimp only; rw [e2, List.append_assoc]
    · obtain ⟨a, b, e1, e2⟩ := flat_erase _ _ _ _ _ h1 h2
      refine ⟨m.now.flatten ++ a, x, b, ?_, h3, ?_⟩
      · unfold Dm.all; rw [e1, List.append_assoc]
      · rw [h4]; unfold Dm.all; dsimp only; rw [e2, List.append_assoc]
  have hrem : m.rem t = { m.cut t with many := m.many - 1 } := by unfold Dm.rem; rw [if_pos hh]
  have hra : (m.rem t).all = (m.cut t).all := by rw [hrem]; rfl
  obtain ⟨a, x, b, e1, e2, e3⟩ := hall
  refine ⟨⟨a, x, b, e1, e2, by rw [hra]; exact e3⟩, ?_⟩
  obtain ⟨s1, s2, s3, s4⟩ := rem_shape m t
  have hsub : (m.rem t).all.Sublist m.all := by
    rw [hra, e3, e1]
    exact (List.Sublist.refl a).append (List.sublist_cons_self x b)
  have hnil : (m.rem t).old = [] ↔ m.old = [] := by rw [← List.length_eq_zero_iff, s2, List.length_eq_zero_iff]
  have hlen := congrArg List.length e1
  have hlen2 := congrArg List.length e3
  rw [List.length_append, List.length_cons] at hlen
  rw [List.length_append] at hlen2
  have hcnt := h.count
  have hm1 : (m.rem t).many = m.many - 1 := by rw [hrem]
  refine ⟨by rw [s1]; exact h.n4, by rw [s1]; exact h.nK, by rw [s2]; exact h.oK, Nat.le_trans s4 h.mK, by rw [hm1, hra, hlen2]; omega, fun ho => by rw [s3, s2]; exact h.nx (fun e => ho (hnil.2 e)), fun ho => by rw [s3]; exact h.nx0 (hnil.1 ho), fun y hy => h.one y (hsub.subset hy), ?_, ?_, (hsub.map fun x => x.1.toList).nodup h.names, ?_⟩
  · rcases cut_where h hh with ⟨k, r, j, x, h1, h2, h3, h4⟩ | ⟨k, r, j, x, h1, h2, h3, h4⟩
    · rw [hrem, h4]; exact Tidy.erase (l := m.now) h.tidyN h1 j
    · rw [hrem, h4]; exact h.tidyN
  · rcases cut_where h hh with ⟨k, r, j, x, h1, h2, h3, h4⟩ | ⟨k, r, j, x, h1, h2, h3, h4⟩
    · rw [hrem, h4]; exact h.tidyO
    · rw [hrem, h4]; exact Tidy.erase (l := m.old) h.tidyO h1 j
  · intro i hi
    rw [s3] at hi
    have he := h.emp i hi
    rcases cut_where h hh with ⟨k, r, j, x, h1, h2, h3, h4⟩ | ⟨k, r, j, x, h1, h2, h3, h4⟩
    · rw [hrem, h4]; exact he
    · rw [hrem, h4]
      dsimp only
      by_cases hk : k = i
      · subst hk
        rw [he] at h1; injection h1 with h1; subst h1
        simp at h2
      · rw [List.getElem?_set_ne hk]; exact he
theorem rem_no {m : Dm} {t : ByteArray} (hh : m.has t = false) : m.rem t = m := by unfold Dm.rem; rw [if_neg (by rw [hh]; decide)]
/-- The rooms are a power of two. -/
structure Pw (m : Dm) : Prop where
  now : ∃ k, m.now.length = 4 * 2 ^ k
  old : m.old.length = 0 ∨ ∃ k, m.old.length = 4 * 2 ^ k
theorem Pw.new : Pw Dm.new := ⟨⟨0, rfl⟩, .inl rfl⟩
theorem step_len (m : Dm) : m.step.now.length = m.now.length ∧ (m.step.old.length = 0 ∨ m.step.old.length = m.old.length) ∧ m.step.many = m.many := by
  unfold Dm.step
  by_cases h : m.old.length = 0
  · rw [if_pos h]; exact ⟨rfl, .inr rfl, rfl⟩
  · rw [if_neg h]
    by_cases h2 : m.next + 1 = m.old.length
    · rw [if_pos h2]; exact ⟨addAll_len _ _, .inl rfl, rfl⟩
    · rw [if_neg h2]; exact ⟨addAll_len _ _, .inr (by simp), rfl⟩
theorem Pw.step {m : Dm} (h : Pw m) : Pw m.step := by
  obtain ⟨h1, h2, -⟩ := step_len m
  refine ⟨by rw [h1]; exact h.now, ?_⟩
  rcases h2 with e | e
  · exact .inl e
  · rw [e]; exact h.old
theorem Pw.put {m : Dm} (h : Pw m) (t : ByteArray) (v : Value) : Pw (m.put t v) := by
  unfold Dm.put
  cases hh : m.has t with
  | true =>
    rw [if_pos rfl]
    unfold Dm.upd
    cases h1 : ixN (rm m.now t) t with
    | some j =>
      dsimp only
      refine ⟨?_, h.old⟩
      dsimp only
      rw [h1]
      dsimp only
      cases (rm m.now t)[j]? with
      | some x => dsimp only; rw [List.length_set]; exact h.now
      | none => exact h.now
    | none =>
      dsimp only
      refine ⟨h.now, ?_⟩
      dsimp only
      cases h2 : ixN (rm m.old t) t with
      | some j =>
        dsimp only
        cases (rm m.old t)[j]? with
        | some x => dsimp only; rw [List.length_set]; exact h.old
        | none => exact h.old
      | none => exact h.old
  | false =>
    rw [if_neg (by decide)]
    obtain ⟨k, hk⟩ := h.now
    by_cases hg : m.old.length = 0 ∧ m.now.length < m.many + 1
    · rw [if_pos hg]
      refine ⟨⟨k + 1, ?_⟩, .inr ⟨k, ?_⟩⟩
      · dsimp only; rw [List.length_replicate, hk, Nat.pow_succ]; omega
      · dsimp only; rw [addR_len, hk]
    · rw [if_neg hg]
      exact ⟨⟨k, by dsimp only; rw [addR_len, hk]⟩, h.old⟩
theorem Pw.rem {m : Dm} (h : Pw m) (t : ByteArray) : Pw (m.rem t) := by
  obtain ⟨s1, s2, -, -⟩ := rem_shape m t
  exact ⟨by rw [s1]; exact h.now, by rw [s2]; exact h.old⟩
theorem Pw.shr {m : Dm} (h : Pw m) : Pw m.shr := by
  unfold Dm.shr
  obtain ⟨k, hk⟩ := h.now
  by_cases hg : m.old.length = 0 ∧ 4 < m.now.length ∧ 4 * m.many < m.now.length
  · rw [if_pos hg]
    refine ⟨?_, .inr ⟨k, hk⟩⟩
    dsimp only
    rw [List.length_replicate, hk]
    cases k with
    | zero => rw [hk] at hg; simp at hg
    | succ k => exact ⟨k, by rw [Nat.pow_succ]; omega⟩
  · rw [if_neg hg]; exact h
theorem Pw.del {m : Dm} (h : Pw m) (t : ByteArray) : Pw (m.del t) := (h.rem t).shr
theorem shr_all {K : Nat} {m : Dm} (h : Inv K m) (hp : Pw m) : m.shr.all = m.all ∧ Inv K m.shr ∧ m.shr.many = m.many := by
  unfold Dm.shr
  by_cases hg : m.old.length = 0 ∧ 4 < m.now.length ∧ 4 * m.many < m.now.length
  · rw [if_pos hg]
    have ho : m.old = [] := List.eq_nil_of_length_eq_zero hg.1
    have hrep : ∀ n : Nat, (List.replicate n ([] : List It)).flatten = [] := fun n => flat_nil fun r hr => List.eq_of_mem_replicate hr
    have hall : (⟨List.replicate (m.now.length / 2) [], m.now, m.next, m.many⟩ : Dm).all = m.all := by
      unfold Dm.all
      dsimp only
      rw [hrep, ho, List.nil_append, List.flatten_nil, List.append_nil]
    obtain ⟨k, hk⟩ := hp.now
    have h8 : 8 ≤ m.now.length := by
      cases k with
      | zero => rw [hk] at hg; simp at hg
      | succ k =>
        have : 1 ≤ 2 ^ k := Nat.one_le_two_pow
        rw [hk, Nat.pow_succ]; omega
    have hnK := h.nK
    refine ⟨hall, ⟨by simp; omega, by simp; omega, hnK, h.mK, by rw [hall]; exact h.count, fun _ => by simp [h.nx0 ho]; omega, fun e => h.nx0 ho, fun x hx => h.one x (by rw [← hall]; exact hx), fun k l hl x hx => ?_, h.tidyN, by rw [hall]; exact h.names, fun k hk => ?_⟩, rfl⟩
    · have := List.eq_of_mem_replicate (List.mem_of_getElem? hl)
      rw [this] at hx; simp at hx
    · dsimp only at hk; rw [h.nx0 ho] at hk; omega
  · rw [if_neg hg]; exact ⟨rfl, h, rfl⟩
/-- Delete: what is there behind it. -/
theorem del_yes {K : Nat} {m : Dm} (h : Inv K m) (hp : Pw m) {t : ByteArray} (hh : m.has t = true) :
    (∃ a x b, m.all = a ++ x :: b ∧ x.1.toList = t.toList ∧ (m.del t).all = a ++ b) ∧ Inv K (m.del t) := by
  obtain ⟨⟨a, x, b, h1, h2, h3⟩, h4⟩ := rem_all h hh
  obtain ⟨e1, e2, -⟩ := shr_all h4 (hp.rem t)
  exact ⟨⟨a, x, b, h1, h2, by unfold Dm.del; rw [e1, h3]⟩, e2⟩
theorem del_no {K : Nat} {m : Dm} (h : Inv K m) (hp : Pw m) {t : ByteArray} (hh : m.has t = false) : (m.del t).all = m.all ∧ Inv K (m.del t) := by
  unfold Dm.del
  rw [rem_no hh]
  obtain ⟨e1, e2, -⟩ := shr_all h hp
  exact ⟨e1, e2⟩
theorem del_inv {K : Nat} {m : Dm} (h : Inv K m) (hp : Pw m) (t : ByteArray) : Inv K (m.del t) := by
  cases hh : m.has t with
  | true => exact (del_yes h hp hh).2
  | false => exact (del_no h hp hh).2
theorem del_get {K : Nat} {m : Dm} (h : Inv K m) (hp : Pw m) (t s : ByteArray) : (m.del t).get s = if t.toList = s.toList then none else m.get s := by
  cases hh : m.has t with
  | false =>
    have hno := has_no h hh
    by_cases e : t.toList = s.toList
    · rw [if_pos e]
      refine get_none fun x hx => ?_
      rw [(del_no h hp hh).1] at hx
      rw [← e]; exact hno x hx
    · rw [if_neg e]
      unfold Dm.get
      rw [(del_no h hp hh).1]
  | true =>
    obtain ⟨⟨a, x, b, h1, h2, h3⟩, hi⟩ := del_yes h hp hh
    have hn := h.names
    rw [h1, List.map_append, List.map_cons, List.nodup_append] at hn
    obtain ⟨-, n2, n3⟩ := hn
    rw [List.nodup_cons] at n2
    by_cases e : t.toList = s.toList
    · rw [if_pos e]
      refine get_none fun y hy => ?_
      rw [h3] at hy
      rw [← e, ← h2]
      rcases List.mem_append.1 hy with hy | hy
      · exact fun q => n3 _ (List.mem_map.2 ⟨y, hy, rfl⟩) _ (List.mem_cons_self ..) q
      · exact fun q => n2.1 (List.mem_map.2 ⟨y, hy, q⟩)
    · rw [if_neg e]
      by_cases hx : ∃ y ∈ m.all, y.1.toList = s.toList
      · obtain ⟨y, hy, hs⟩ := hx
        rw [h.get_mem hy hs]
        refine hi.get_mem ?_ hs
        rw [h3]
        rw [h1] at hy
        rcases List.mem_append.1 hy with hy | hy
        · exact List.mem_append_left _ hy
        · rcases List.mem_cons.1 hy with rfl | hy
          · exact absurd (h2.symm.trans hs) e
          · exact List.mem_append_right _ hy
      · rw [get_none (fun y hy hs => hx ⟨y, hy, hs⟩)]
        refine get_none fun y hy hs => hx ⟨y, ?_, hs⟩
        rw [h3] at hy
        rw [h1]
        rcases List.mem_append.1 hy with hy | hy
        · exact List.mem_append_left _ hy
        · exact List.mem_append_right _ (List.mem_cons_of_mem _ hy)
theorem del_many {K : Nat} {m : Dm} (h : Inv K m) (hp : Pw m) {t : ByteArray} (hh : m.has t = true) : (m.del t).many + 1 = m.many := by
  obtain ⟨⟨a, x, b, h1, h2, h3⟩, hi⟩ := del_yes h hp hh
  rw [hi.count, h.count, h1, h3]
  simp; omega
end Go.Proofs.YtfdcacjfngjmdaaDoor.T
