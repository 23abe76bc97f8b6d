import Derived.Deep.DeepCutAuto
import Derived.Laws.OwnMore
import Derived.OwnWalk
import Derived.Lib.AppendStr
import Derived.Lib.SliceRun
import Derived.Lib.SmallJoins
import Derived.IntWalk
import Derived.WalkMore
import Derived.Lib.OthersKept
import Derived.Deep.LoopGhost
import Derived.Deep.RegionLaw
import Derived.Deep.AppendLies
import Derived.Test.YtfdcacjfngjmdaaDoorProg
import Derived.Test.YtfdcacjfngjmdaaDoorMem
import Derived.Test.YtfdcacjfngjmdaaDoorBlk
import Derived.Test.YtfdcacjfngjmdaaDoorAp
import Derived.Test.YtfdcacjfngjmdaaDoorDg
import Derived.WalkKit
import Derived.Outline
import Derived.WalkLawsBesides
import Derived.Deep.QuietTactic
import Derived.BigQuiet
import Derived.Lib.Hide
import Derived.Handy
import Derived.Deep.RegionHeld3
import Derived.Deep.DrawnRows
import Derived.KernelRfl
import Derived.Great.Walk
import Derived.Test.YtfdcacjfngjmdaaDoorOwn
namespace Go.Proofs.YtfdcacjfngjmdaaDoor.T
open Go Go.RowKit Go.Sort Mem Own
set_option maxRecDepth 100000
set_option maxHeartbeats 1000000
set_option linter.unusedVariables false
set_option linter.unusedSimpArgs false

theorem ics_set : ∀ (l : List It) (j : Nat) (u : Value) (x : It), l[j]? = some x → (ics l).set (j * 2 + 1) u = ics (l.set j (x.1, u))
  | [], j, u, x, h => by simp at h
  | p :: l, 0, u, x, h => by simp at h; subst h; rfl
  | p :: l, j + 1, u, x, h => by
    rw [show (j + 1) * 2 + 1 = (j * 2 + 1) + 1 + 1 by omega]
    simp only [ics, List.set_cons_succ]
    rw [ics_set l j u x (by simpa using h)]
/-- A value is stored into a room. -/
theorem Tab.setv {w : World} {B TR TI g : Nat} {ow : Ow} {b : Nat} {v : List Value} {l : List (List It)} (h : Tab w B TR TI g ow b v l) {k : Nat} {r : List It} (hk : l[k]? = some r) {bb o n c j : Nat} {u : Value} {x : It}
    (hA : v[k]? = some (.slice (some ⟨bb, o, none⟩) n c)) (hj : r[j]? = some x) :
    o = 0 ∧ ow bb = (g + 1, b + 2, k) ∧ B ≤ bb ∧ bb < w.heap.size ∧ w.frozen? ⟨bb, o + j * 2 + 1, none⟩ = false ∧ Tab (w.setCell ⟨bb, o + j * 2 + 1, none⟩ u) B TR TI g ow b v (l.set k (r.set j (x.1, u))) := by
  obtain ⟨y, y1, y2, y3⟩ := h.rows k r hk
  rw [hA] at y1; injection y1 with y1; subst y1
  have hbb := y3 bb rfl
  have hlt := y2.lt bb rfl
  obtain ⟨A, c', e1, e2, -, -, -⟩ := own_rdI y2
  injection e1 with e1 e3 e4
  subst e3
  have ho : o = 0 := by
    rcases y2.2 with ⟨e, h0⟩ | ⟨g1, cap, cur, e, _⟩
    · injection e with e _ _; cases e
    · injection e with e _ _; injection e with e; injection e with _ e
  subst ho
  obtain ⟨s1, -⟩ := y2.stored (j * 2 + 1) u
  rw [ics_set r j u x hj] at s1
  have hne : b ≠ bb := fun e => by rw [← e, h.tag] at hbb; simp at hbb
  refine ⟨rfl, hbb, hlt.1, hlt.2, y2.frozenAt _, ⟨h.base, h.tag, by rw [heap_set _ _ _ _ _ hne]; exact h.blk, by rw [List.length_set]; exact h.len, fun i z hz => ?_⟩⟩
  rw [Nat.zero_add]
  by_cases hi : i = k
  · subst hi
    have hkl : i < l.length := (List.getElem?_eq_some_iff.1 hk).1
    rw [List.getElem?_set_self hkl] at hz
    injection hz with hz; subst hz
    rw [List.length_set]
    exact ⟨_, hA, s1, y3⟩
  · rw [List.getElem?_set_ne (fun e => hi e.symm)] at hz
    obtain ⟨p, p1, p2, p3⟩ := h.rows i z hz
    refine ⟨p, p1, own_keep p2 fun q hq ob hob => ?_, p3⟩
    rw [heap_set _ _ _ _ _ (fun e => by
      have t1 := p3 q hq
      rw [e, hbb] at t1
      injection t1 with _ t2; injection t2 with _ t3; exact hi t3.symm)]
    exact hob
/-- A table that is not touched. -/
theorem Tab.far {w : World} {B TR TI g : Nat} {ow : Ow} {b : Nat} {v : List Value} {l : List (List It)} (h : Tab w B TR TI g ow b v l) {bb o k b2 : Nat} {u : Value} (hb : ow bb = (g + 1, b2 + 2, k)) (hne : b ≠ b2) : Tab (w.setCell ⟨bb, o, none⟩ u) B TR TI g ow b v l := by
  refine ⟨h.base, h.tag, by rw [heap_set _ _ _ _ _ (fun e => by rw [← e, h.tag] at hb; simp at hb)]; exact h.blk, h.len, fun i z hz => ?_⟩
  obtain ⟨p, p1, p2, p3⟩ := h.rows i z hz
  refine ⟨p, p1, own_keep p2 fun q hq ob hob => ?_, p3⟩
  rw [heap_set _ _ _ _ _ (fun e => by
    have t1 := p3 q hq
    rw [e, hb] at t1
    injection t1 with _ t2; injection t2 with t3 _; omega)]
  exact hob
/-- The dict behind Put's store into what is there. -/
def Dm.upd (m : Dm) (t : ByteArray) (v : Value) : Dm :=
  let f := fun (l : List (List It)) => match ixN (rm l t) t with
    | some j => match (rm l t)[j]? with
      | some x => l.set (hsh t % l.length) ((rm l t).set j (x.1, v))
      | none => l
    | none => l
  match ixN (rm m.now t) t with
  | some _ => { m with now := f m.now }
  | none => { m with old := f m.old }
theorem ixN_of {l : List It} {t : ByteArray} {j : Nat} (h : ((j : Nat) : Int) = ixI l t) : ixN l t = some j := by
  unfold ixI at h
  cases e : ixN l t with
  | none => rw [e] at h; dsimp only at h; omega
  | some i => rw [e] at h; dsimp only at h; rw [show i = j by omega]
theorem ixN_none {l : List It} {t : ByteArray} (h : ixI l t < 0) : ixN l t = none := by
  unfold ixI at h
  cases e : ixN l t with
  | none => rfl
  | some i => rw [e] at h; dsimp only at h; omega
/-- find found it, and a value is stored there. -/
theorem found_put {w : World} {B D TR TI g gn go K : Nat} {ow : Ow} {m : Dm} {nv ov : List Value} {t : ByteArray} {b k : Nat} {i : Int} (h : DR w B D TR TI g ow m gn go nv ov) (hv : Inv K m) (hf : Found m t gn go b k i) (hi : 0 ≤ i) (v : Value) :
    ∃ bb o L c j u0, i = ((j : Nat) : Int) ∧ w.cell? ⟨b, k, none⟩ = some (.slice (some ⟨bb, o, none⟩) L c) ∧ j < L ∧ w.cell? ⟨bb, o + j * 2 + 1, none⟩ = some u0 ∧ w.frozen? ⟨bb, o + j * 2 + 1, none⟩ = false ∧
      DR (w.setCell ⟨bb, o + j * 2 + 1, none⟩ v) B D TR TI g ow (m.upd t v) gn go nv ov ∧ Chg B g ow ow w (w.setCell ⟨bb, o + j * 2 + 1, none⟩ v) := by
  have hn4 := hv.n4
  rcases hf with ⟨rfl, rfl, he, -⟩ | ⟨rfl, rfl, he, hol, hneg⟩
  · obtain ⟨j, hj, rfl, ht⟩ := ix_pos he hi
    have hk := rm_at (l := m.now) t (by omega)
    obtain ⟨A, c, q, hA, hr, -, -⟩ := h.now.room hk
    obtain ⟨bb, o, rfl⟩ := hr.addr (by omega)
    have hx : (rm m.now t)[j]? = some (rm m.now t)[j] := List.getElem?_eq_getElem hj
    obtain ⟨rfl, s1, s2, s3, s4, s5⟩ := h.now.setv (u := v) hk hA hx
    have hup : m.upd t v = { m with now := m.now.set (hsh t % m.now.length) ((rm m.now t).set j ((rm m.now t)[j].1, v)) } := by
      unfold Dm.upd
      rw [ixN_of he]
      dsimp only
      rw [ixN_of he]
      dsimp only
      rw [hx]
    have gg : g ≠ bb := fun e => by have t1 := h.tag; rw [e, s1] at t1; simp at t1
    refine ⟨bb, 0, _, c, j, _, rfl, q, hj, (hr.cell hj).2, s4, ?_, ⟨Below.setCell (p := ⟨bb, 0 + j * 2 + 1, none⟩) (Below.refl _ _) s2 _, fun _ _ => rfl, fun q _ hr => heap_set _ _ _ _ _ (fun e => hr (by rw [e, s1]))⟩⟩
    rw [hup]
    exact ⟨h.base, h.tag, by rw [heap_set _ _ _ _ _ gg]; simp only [List.length_set]; exact h.blk, s5, fun ho => ⟨(h.old ho).1.far s1 (fun e => (h.old ho).2 e.symm), (h.old ho).2⟩⟩
  · obtain ⟨j, hj, rfl, ht⟩ := ix_pos he hi
    have hno : m.old ≠ [] := fun e => by rw [e] at hol; simp at hol
    have hk := rm_at (l := m.old) t hol
    obtain ⟨ht1, hne⟩ := h.old hno
    obtain ⟨A, c, q, hA, hr, -, -⟩ := ht1.room hk
    obtain ⟨bb, o, rfl⟩ := hr.addr (by omega)
    have hx : (rm m.old t)[j]? = some (rm m.old t)[j] := List.getElem?_eq_getElem hj
    obtain ⟨rfl, s1, s2, s3, s4, s5⟩ := ht1.setv (u := v) hk hA hx
    have hup : m.upd t v = { m with old := m.old.set (hsh t % m.old.length) ((rm m.old t).set j ((rm m.old t)[j].1, v)) } := by
      unfold Dm.upd
      rw [ixN_none hneg]
      dsimp only
      rw [ixN_of he]
      dsimp only
      rw [hx]
    have gg : g ≠ bb := fun e => by have t1 := h.tag; rw [e, s1] at t1; simp at t1
    refine ⟨bb, 0, _, c, j, _, rfl, q, hj, (hr.cell hj).2, s4, ?_, ⟨Below.setCell (p := ⟨bb, 0 + j * 2 + 1, none⟩) (Below.refl _ _) s2 _, fun _ _ => rfl, fun q _ hr => heap_set _ _ _ _ _ (fun e => hr (by rw [e, s1]))⟩⟩
    rw [hup]
    exact ⟨h.base, h.tag, by rw [heap_set _ _ _ _ _ gg]; simp only [List.length_set]; exact h.blk, h.now.far s1 hne, fun _ => ⟨s5, hne⟩⟩
end Go.Proofs.YtfdcacjfngjmdaaDoor.T
