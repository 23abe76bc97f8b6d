import Derived.Deep.DeepCutAuto
import Derived.Laws.OwnMore
import Derived.OwnWalk
import Derived.Lib.AppendStr
import Derived.Lib.SliceRun
import Derived.Lib.SmallJoins
import Derived.IntWalk
import Derived.WalkMore
import Derived.Lib.OthersKept
import Derived.Deep.LoopGhost
import Derived.Deep.RegionLaw
import Derived.Deep.AppendLies
import Derived.Test.YtfdcacjfngjmdaaDoorProg
import Derived.Test.YtfdcacjfngjmdaaDoorMem
import Derived.Test.YtfdcacjfngjmdaaDoorBlk
import Derived.Test.YtfdcacjfngjmdaaDoorAp
import Derived.Test.YtfdcacjfngjmdaaDoorDq
import Derived.Test.YtfdcacjfngjmdaaDoorDn
import Derived.WalkKit
import Derived.Outline
import Derived.WalkLawsBesides
import Derived.Deep.QuietTactic
import Derived.BigQuiet
import Derived.Lib.Hide
import Derived.Handy
import Derived.Deep.RegionHeld3
import Derived.Deep.DrawnRows
import Derived.KernelRfl
import Derived.Great.Walk
import Derived.Test.YtfdcacjfngjmdaaDoorOwn
namespace Go.Proofs.YtfdcacjfngjmdaaDoor.T
open Go Go.RowKit Go.Sort Mem Own
set_option maxRecDepth 100000
set_option maxHeartbeats 1000000
set_option linter.unusedVariables false
set_option linter.unusedSimpArgs false

/-- A room of a table has lost an item: its row is cut in place, its cell set. -/
theorem Tab.cut {w w1 : World} {B TR TI g : Nat} {ow : Ow} {b : Nat} {v : List Value} {l : List (List It)} (h : Tab w B TR TI g ow b v l) {k bb n n2 c : Nat} {r r2 : List It} (hk : l[k]? = some r)
    (hu : v[k]? = some (.slice (some ⟨bb, 0, none⟩) n c)) (h1 : w1.ownsRow B TI 2 (.slice (some ⟨bb, 0, none⟩) n2 c) r2.length (ics r2)) (hb : ∀ q, q ≠ bb → w1.heap[q]? = w.heap[q]?) :
    ow bb = (g + 1, b + 2, k) ∧ B ≤ bb ∧ bb < w.heap.size ∧ Tab (w1.setCell ⟨b, k, none⟩ (.slice (some ⟨bb, 0, none⟩) n2 c)) B TR TI g ow b (v.set k (.slice (some ⟨bb, 0, none⟩) n2 c)) (l.set k r2) := by
  obtain ⟨y, y1, y2, y3⟩ := h.rows k r hk
  rw [hu] at y1; injection y1 with y1; subst y1
  have hbb := y3 bb rfl
  have hlt := y2.lt bb rfl
  have hne : b ≠ bb := fun e => by rw [← e, h.tag] at hbb; simp at hbb
  have hkl : k < v.length := (List.getElem?_eq_some_iff.1 hu).1
  refine ⟨hbb, hlt.1, hlt.2, ⟨h.base, h.tag, ?_, by rw [List.length_set, List.length_set]; exact h.len, fun i z hz => ?_⟩⟩
  · have q0 : w1.heap[b]? = some (.cells v.toArray TR (0, 0)) := by rw [hb b hne]; exact h.blk
    rw [blk_set q0, arr_set]
  · by_cases hi : i = k
    · subst hi
      rw [List.getElem?_set_self (by have := h.len; omega)] at hz
      injection hz with hz; subst hz
      refine ⟨_, List.getElem?_set_self hkl, own_keep h1 fun q hq o ho => ?_, fun q hq => ?_⟩
      · have e2 : bb = q := Option.some.inj hq
        rw [heap_set _ _ _ _ _ (by omega)]; exact ho
      · have e2 : bb = q := Option.some.inj hq
        rw [← e2]; exact hbb
    · rw [List.getElem?_set_ne (fun e => hi e.symm)] at hz
      obtain ⟨p, p1, p2, p3⟩ := h.rows i z hz
      refine ⟨p, by rw [List.getElem?_set_ne (fun e => hi e.symm)]; exact p1, own_keep p2 fun q hq o ho => ?_, p3⟩
      have hqq := p3 q hq
      rw [heap_set _ _ _ _ _ (fun e => by rw [e, h.tag] at hqq; simp at hqq), hb q (fun e => by
        rw [e, hbb] at hqq
        injection hqq with _ t2; injection t2 with _ t3; exact hi t3.symm)]
      exact ho
/-- A table that is not touched by it. -/
theorem Tab.cutFar {w w1 : World} {B TR TI g : Nat} {ow : Ow} {b : Nat} {v : List Value} {l : List (List It)} (h : Tab w B TR TI g ow b v l) {bb b2 k : Nat} {u : Value} (h2 : ow b2 = (g + 1, 1, 0)) (hbb : ow bb = (g + 1, b2 + 2, k)) (hne : b ≠ b2) (hb : ∀ q, q ≠ bb → w1.heap[q]? = w.heap[q]?) :
    Tab (w1.setCell ⟨b2, k, none⟩ u) B TR TI g ow b v l := by
  refine ⟨h.base, h.tag, by rw [heap_set _ _ _ _ _ hne, hb b (fun e => by rw [← e, h.tag] at hbb; simp at hbb)]; exact h.blk, h.len, fun i z hz => ?_⟩
  obtain ⟨p, p1, p2, p3⟩ := h.rows i z hz
  refine ⟨p, p1, own_keep p2 fun q hq ob hob => ?_, p3⟩
  have hqq := p3 q hq
  rw [heap_set _ _ _ _ _ (fun e => by rw [e, h2] at hqq; simp at hqq), hb q (fun e => by
    rw [e, hbb] at hqq
    injection hqq with _ t2; injection t2 with t3 _; omega)]
  exact hob
/-- The dict behind Delete's cut of a room. -/
def Dm.cut (m : Dm) (t : ByteArray) : Dm :=
  match ixN (rm m.now t) t with
  | some j => { m with now := m.now.set (hsh t % m.now.length) ((rm m.now t).eraseIdx j) }
  | none => match ixN (rm m.old t) t with
    | some j => { m with old := m.old.set (hsh t % m.old.length) ((rm m.old t).eraseIdx j) }
    | none => m
def Dm.rem (m : Dm) (t : ByteArray) : Dm := if m.has t then { m.cut t with many := m.many - 1 } else m
/-- A smaller table is begun. -/
def Dm.shr (m : Dm) : Dm := if m.old.length = 0 ∧ 4 < m.now.length ∧ 4 * m.many < m.now.length then { now := List.replicate (m.now.length / 2) [], old := m.now, next := m.next, many := m.many } else m
def Dm.del (m : Dm) (t : ByteArray) : Dm := (m.rem t).shr
theorem ics_one {l : List It} (h : ∀ x ∈ l, x.2.oneCell' = true) : ∀ u ∈ ics l, u.oneCell' = true := by
  induction l with
  | nil => intro u hu; simp [ics] at hu
  | cons p l ih =>
    intro u hu
    simp only [ics, List.mem_cons] at hu
    rcases hu with rfl | rfl | hu
    · rfl
    · exact h p (List.mem_cons_self ..)
    · exact ih (fun x hx => h x (List.mem_cons_of_mem _ hx)) u hu
/-- find found it, and the item is taken out there. -/
theorem found_cut {w : World} {B D TR TI g gn go K : Nat} {ow : Ow} {m : Dm} {nv ov : List Value} {t : ByteArray} {b k : Nat} {i : Int} (h : DR w B D TR TI g ow m gn go nv ov) (hv : Inv K m) (hf : Found m t gn go b k i) (hi : 0 ≤ i) :
    ∃ bb L c j xs, i = ((j : Nat) : Int) ∧ w.cell? ⟨b, k, none⟩ = some (.slice (some ⟨bb, 0, none⟩) L c) ∧ w.frozen? ⟨b, k, none⟩ = false ∧ j < L ∧ L ≤ K ∧ b ≠ bb ∧ w.ownsRow B TI 2 (.slice (some ⟨bb, 0, none⟩) L c) L xs ∧ (∀ u ∈ xs, u.oneCell' = true) ∧
      ∀ w1 : World, w1.ownsRow B TI 2 (.slice (some ⟨bb, 0, none⟩) (L - 1) c) (L - 1) (xs.take (j * 2) ++ xs.drop ((j + 1) * 2)) → w1.heap.size = w.heap.size → (∀ q, q ≠ bb → w1.heap[q]? = w.heap[q]?) → Below bb w w1 →
        ∃ nv' ov', DR (w1.setCell ⟨b, k, none⟩ (.slice (some ⟨bb, 0, none⟩) (L - 1) c)) B D TR TI g ow (m.cut t) gn go nv' ov' ∧ Chg B g ow ow w (w1.setCell ⟨b, k, none⟩ (.slice (some ⟨bb, 0, none⟩) (L - 1) c)) := by
  have hn4 := hv.n4
  have zero : ∀ {v : Value} {n : Nat} {xs : List Value} {bb o c L : Nat}, w.ownsRow B TI 2 v n xs → v = .slice (some ⟨bb, o, none⟩) L c → o = 0 := fun hy e => by
    rcases hy.2 with ⟨e1, h0⟩ | ⟨g1, cap, cur, e1, _⟩
    · rw [e] at e1; injection e1 with e1 _ _; cases e1
    · rw [e] at e1; injection e1 with e1 _ _; injection e1 with e1; injection e1 with _ e1
  rcases hf with ⟨rfl, rfl, he, -⟩ | ⟨rfl, rfl, he, hol, hneg⟩
  · obtain ⟨j, hj, rfl, ht⟩ := ix_pos he hi
    have hk := rm_at (l := m.now) t (by omega)
    obtain ⟨A, c, q, hA, hr, how, -⟩ := h.now.room hk
    obtain ⟨bb, o, rfl⟩ := hr.addr (by omega)
    obtain rfl := zero how rfl
    have hcut : m.cut t = { m with now := m.now.set (hsh t % m.now.length) ((rm m.now t).eraseIdx j) } := by unfold Dm.cut; rw [ixN_of he]
    have hle : ((rm m.now t).eraseIdx j).length = (rm m.now t).length - 1 := List.length_eraseIdx_of_lt hj
    have hbb0 : b ≠ bb := fun e => by
      obtain ⟨y, y1, y2, y3⟩ := h.now.rows _ _ hk
      rw [hA] at y1; injection y1 with y1; subst y1
      have := y3 bb rfl
      rw [← e, h.now.tag] at this; simp at this
    refine ⟨bb, _, c, j, _, rfl, q, of_blk_free h.now.blk _, hj, (hv.rmN t).1, hbb0, how, ics_one (hv.rmN t).2, fun w1 g1 g2 g3 g4 => ?_⟩
    rw [ics_cut, ← hle] at g1
    obtain ⟨s1, s2, s3, s4⟩ := h.now.cut (r2 := (rm m.now t).eraseIdx j) (n2 := (rm m.now t).length - 1) (w1 := w1) hk hA (by rw [hle] at g1 ⊢; exact g1) g3
    have gg : g ≠ bb := fun e => by have t1 := h.tag; rw [e, s1] at t1; simp at t1
    have gb : g ≠ b := fun e => by have t1 := h.tag; rw [e, h.now.tag] at t1; simp at t1
    refine ⟨nv.set (hsh t % m.now.length) (.slice (some ⟨bb, 0, none⟩) ((rm m.now t).length - 1) c), ov, ?_, ⟨Below.setCell (p := ⟨b, hsh t % m.now.length, none⟩) (g4.mono s2) h.now.base _, fun _ _ => rfl, fun q _ hr => ?_⟩⟩
    · rw [hcut]
      refine ⟨h.base, h.tag, by rw [heap_set _ _ _ _ _ gb, g3 g gg]; simp only [List.length_set]; exact h.blk, s4, fun ho => ⟨(h.old ho).1.cutFar h.now.tag s1 (fun e => (h.old ho).2 e.symm) g3, (h.old ho).2⟩⟩
    · rw [heap_set _ _ _ _ _ (fun e => hr (by rw [e, h.now.tag])), g3 q (fun e => hr (by rw [e, s1]))]
  · obtain ⟨j, hj, rfl, ht⟩ := ix_pos he hi
    have hno : m.old ≠ [] := fun e => by rw [e] at hol; simp at hol
    have hk := rm_at (l := m.old) t hol
    obtain ⟨ht1, hne⟩ := h.old hno
    obtain ⟨A, c, q, hA, hr, how, -⟩ := ht1.room hk
    obtain ⟨bb, o, rfl⟩ := hr.addr (by omega)
    obtain rfl := zero how rfl
    have hcut : m.cut t = { m with old := m.old.set (hsh t % m.old.length) ((rm m.old t).eraseIdx j) } := by unfold Dm.cut; rw [ixN_none hneg]; dsimp only; rw [ixN_of he]
    have hle : ((rm m.old t).eraseIdx j).length = (rm m.old t).length - 1 := List.length_eraseIdx_of_lt hj
    have hbb0 : b ≠ bb := fun e => by
      obtain ⟨y, y1, y2, y3⟩ := ht1.rows _ _ hk
      rw [hA] at y1; injection y1 with y1; subst y1
      have := y3 bb rfl
      rw [← e, ht1.tag] at this; simp at this
    refine ⟨bb, _, c, j, _, rfl, q, of_blk_free ht1.blk _, hj, (hv.rmO t).1, hbb0, how, ics_one (hv.rmO t).2, fun w1 g1 g2 g3 g4 => ?_⟩
    rw [ics_cut, ← hle] at g1
    obtain ⟨s1, s2, s3, s4⟩ := ht1.cut (r2 := (rm m.old t).eraseIdx j) (n2 := (rm m.old t).length - 1) (w1 := w1) hk hA (by rw [hle] at g1 ⊢; exact g1) g3
    have gg : g ≠ bb := fun e => by have t1 := h.tag; rw [e, s1] at t1; simp at t1
    have gb : g ≠ b := fun e => by have t1 := h.tag; rw [e, ht1.tag] at t1; simp at t1
    refine ⟨nv, ov.set (hsh t % m.old.length) (.slice (some ⟨bb, 0, none⟩) ((rm m.old t).length - 1) c), ?_, ⟨Below.setCell (p := ⟨b, hsh t % m.old.length, none⟩) (g4.mono s2) ht1.base _, fun _ _ => rfl, fun q _ hr => ?_⟩⟩
    · rw [hcut]
      refine ⟨h.base, h.tag, by rw [heap_set _ _ _ _ _ gb, g3 g gg]; simp only [List.length_set]; exact h.blk, h.now.cutFar ht1.tag s1 hne g3, fun _ => ⟨s4, hne⟩⟩
    · rw [heap_set _ _ _ _ _ (fun e => hr (by rw [e, ht1.tag])), g3 q (fun e => hr (by rw [e, s1]))]
theorem cut_shape (m : Dm) (t : ByteArray) : (m.cut t).shape = m.shape := by
  unfold Dm.cut Dm.shape
  cases h : ixN (rm m.now t) t with
  | some j => simp
  | none =>
    dsimp only
    cases h2 : ixN (rm m.old t) t with
    | some j => simp
    | none => rfl
theorem rem_shape (m : Dm) (t : ByteArray) : (m.rem t).now.length = m.now.length ∧ (m.rem t).old.length = m.old.length ∧ (m.rem t).next = m.next ∧ (m.rem t).many ≤ m.many := by
  unfold Dm.rem
  have h := cut_shape m t
  unfold Dm.shape at h
  injection h with h1 h2; injection h2 with h2 h3; injection h3 with h3 h4
  cases m.has t with
  | false => exact ⟨rfl, rfl, rfl, Nat.le_refl _⟩
  | true => exact ⟨h1, h2, h3, by show m.many - 1 ≤ m.many; omega⟩
end Go.Proofs.YtfdcacjfngjmdaaDoor.T
