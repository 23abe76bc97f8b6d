import Derived.Deep.DeepCutAuto
import Derived.Laws.OwnMore
import Derived.OwnWalk
import Derived.Lib.AppendStr
import Derived.Lib.SliceRun
import Derived.Lib.SmallJoins
import Derived.IntWalk
import Derived.WalkMore
import Derived.Lib.OthersKept
import Derived.Deep.LoopGhost
import Derived.Deep.RegionLaw
import Derived.Deep.AppendLies
import Derived.Test.YtfdcacjfngjmdaaDoorProg
import Derived.Test.YtfdcacjfngjmdaaDoorMem
import Derived.Test.YtfdcacjfngjmdaaDoorBlk
import Derived.Test.YtfdcacjfngjmdaaDoorAp
import Derived.Test.YtfdcacjfngjmdaaDoorDe
import Derived.WalkKit
import Derived.Outline
import Derived.WalkLawsBesides
import Derived.Deep.QuietTactic
import Derived.BigQuiet
import Derived.Lib.Hide
import Derived.Handy
import Derived.Deep.RegionHeld3
import Derived.Deep.DrawnRows
import Derived.KernelRfl
import Derived.Great.Walk
import Derived.Test.YtfdcacjfngjmdaaDoorOwn
namespace Go.Proofs.YtfdcacjfngjmdaaDoor.T
open Go Go.RowKit Go.Sort Mem Own
set_option maxRecDepth 100000
set_option maxHeartbeats 1000000
set_option linter.unusedVariables false
set_option linter.unusedSimpArgs false

/-- What a call on the dict g may do: to its own blocks, all above B. -/
structure Chg (B g : Nat) (ow ow' : Ow) (w w' : World) : Prop where
  below : Below B w w'
  tags : ∀ b, b < w.heap.size → ow' b = ow b
  rest : ∀ b, b < w.heap.size → (ow b).1 ≠ g + 1 → w'.heap[b]? = w.heap[b]?
theorem Chg.trans {B g : Nat} {o1 o2 o3 : Ow} {w1 w2 w3 : World} (h : Chg B g o1 o2 w1 w2) (h2 : Chg B g o2 o3 w2 w3) : Chg B g o1 o3 w1 w3 := by
  have hs := h.below.size
  exact ⟨h.below.trans h2.below, fun b hb => by rw [h2.tags b (by omega), h.tags b hb], fun b hb hr => by rw [h2.rest b (by omega) (by rw [h.tags b hb]; exact hr), h.rest b hb hr]⟩
theorem Chg.of_below {B g : Nat} {ow : Ow} {w w' : World} (h : Below w.heap.size w w') (hB : B ≤ w.heap.size) : Chg B g ow ow w w' := ⟨h.mono hB, fun _ _ => rfl, fun b hb _ => h.block b hb⟩
theorem heap_set (w : World) (b i k : Nat) (v : Value) (h : k ≠ b) : (w.setCell ⟨b, i, none⟩ v).heap[k]? = w.heap[k]? := Below.heap_setCell _ _ _ _ h
theorem arr_set (l : List Value) (k : Nat) (v : Value) : l.toArray.setIfInBounds k v = (l.set k v).toArray := by simp
/-- A room has got one more item: the table's cell is set behind the append. -/
theorem DR.add {w w1 : World} {B D TR TI g gn go : Nat} {ow : Ow} {m : Dm} {nv ov : List Value} (h : DR w B D TR TI g ow m gn go nv ov) {k : Nat} {l l2 : List It} {u v1 : Value}
    (hk : m.now[k]? = some l) (hu : nv[k]? = some u) (h1 : w1.ownsRow B TI 2 v1 l2.length (ics l2)) (hb1 : Below B w w1)
    (hb : ∀ b, b < w.heap.size → some b ≠ u.ownBlock → w1.heap[b]? = w.heap[b]?) (hv : v1.ownBlock = u.ownBlock ∨ ∀ q, v1.ownBlock = some q → w.heap.size ≤ q) :
    ∃ ow', DR (w1.setCell ⟨gn, k, none⟩ v1) B D TR TI g ow' { m with now := m.now.set k l2 } gn go (nv.set k v1) ov ∧ Chg B g ow ow' w (w1.setCell ⟨gn, k, none⟩ v1) := by
  have hgn := lt_of_blk h.now.blk
  have hgg := lt_of_blk h.blk
  obtain ⟨u', e1, hou, htu⟩ := h.now.rows k l hk
  rw [hu] at e1; injection e1 with e1; subst e1
  have hkl : k < nv.length := (List.getElem?_eq_some_iff.1 hu).1
  have gg : g ≠ gn := fun e => by have t1 := h.tag; rw [e, h.now.tag] at t1; simp at t1
  have ub : ∀ q, u.ownBlock = some q → q ≠ gn ∧ q ≠ g := fun q hq => ⟨fun e => by have := htu q hq; rw [e, h.now.tag] at this; simp at this, fun e => by have := htu q hq; rw [e, h.tag] at this; simp at this⟩
  have vb : ∀ q, v1.ownBlock = some q → q ≠ gn ∧ q ≠ g := fun q hq => by
    rcases hv with e | e
    · exact ub q (by rw [← e]; exact hq)
    · have := e q hq; exact ⟨by omega, by omega⟩
  have keep : ∀ b, b < w.heap.size → some b ≠ u.ownBlock → b ≠ gn → (w1.setCell ⟨gn, k, none⟩ v1).heap[b]? = w.heap[b]? := fun b h1 h2 h3 => by rw [heap_set _ _ _ _ _ h3, hb b h1 h2]
  refine ⟨fun b => if b < w.heap.size then ow b else (g + 1, gn + 2, k), ⟨h.base, ?_, ?_, ⟨h.now.base, ?_, ?_, ?_, ?_⟩, ?_⟩, ⟨?_, ?_, ?_⟩⟩
  · (try dsimp only); rw [if_pos hgg]; exact h.tag
  · rw [keep g hgg (fun e => (ub g e.symm).2 rfl) gg]
    simp only [List.length_set]
    exact h.blk
  · (try dsimp only); rw [if_pos hgn]; exact h.now.tag
  · have q0 : w1.heap[gn]? = some (.cells nv.toArray TR (0, 0)) := by rw [hb gn hgn (fun e => (ub gn e.symm).1 rfl)]; exact h.now.blk
    rw [blk_set q0, arr_set]
  · simp only [List.length_set]; exact h.now.len
  · intro j x hx
    dsimp only at hx
    by_cases hj : j = k
    · subst hj
      rw [List.getElem?_set_self (by have := h.now.len; omega)] at hx
      injection hx with hx; subst hx
      refine ⟨v1, by rw [List.getElem?_set_self hkl], own_keep h1 fun q hq o ho => ?_, fun q hq => ?_⟩
      · rw [heap_set _ _ _ _ _ (vb q hq).1]; exact ho
      · (try dsimp only)
        rcases hv with e | e
        · rw [e] at hq; rw [if_pos (hou.lt q hq).2]; exact htu q hq
        · rw [if_neg (by have := e q hq; omega)]
    · rw [List.getElem?_set_ne (fun e => hj e.symm)] at hx
      obtain ⟨y, y1, y2, y3⟩ := h.now.rows j x hx
      refine ⟨y, by rw [List.getElem?_set_ne (fun e => hj e.symm)]; exact y1, own_keep y2 fun q hq o ho => ?_, fun q hq => ?_⟩
      · rw [keep q (lt_of_blk ho) (fun e => ?_) (fun e => ?_)]; exact ho
        · have a1 := htu q e.symm
          rw [y3 q hq] at a1
          injection a1 with _ a2; injection a2 with _ a3; exact hj a3
        · have a1 := y3 q hq; rw [e, h.now.tag] at a1; simp at a1
      · (try dsimp only); rw [if_pos (y2.lt q hq).2]; exact y3 q hq
  · intro ho
    obtain ⟨ht, hne⟩ := h.old ho
    have hgo := lt_of_blk ht.blk
    refine ⟨⟨ht.base, ?_, ?_, ht.len, ?_⟩, hne⟩
    · (try dsimp only); rw [if_pos hgo]; exact ht.tag
    · rw [keep go hgo (fun e => ?_) (fun e => hne e.symm)]
      · exact ht.blk
      · have := htu go e.symm; rw [ht.tag] at this; simp at this
    · intro j x hx
      obtain ⟨y, y1, y2, y3⟩ := ht.rows j x hx
      refine ⟨y, y1, own_keep y2 fun q hq o hoo => ?_, fun q hq => ?_⟩
      · rw [keep q (lt_of_blk hoo) (fun e => ?_) (fun e => ?_)]; exact hoo
        · have a1 := htu q e.symm
          rw [y3 q hq] at a1
          injection a1 with _ a2; injection a2 with a3 _; omega
        · have a1 := y3 q hq; rw [e, h.now.tag] at a1; simp at a1
      · (try dsimp only); rw [if_pos (y2.lt q hq).2]; exact y3 q hq
  · exact Below.setCell (p := ⟨gn, k, none⟩) hb1 h.now.base _
  · intro b hb'; (try dsimp only); rw [if_pos hb']
  · intro b hb' hr
    rw [keep b hb' (fun e => hr (by rw [htu b e.symm])) (fun e => hr (by rw [e, h.now.tag]))]
/-- The dict's own cells are set. -/
theorem DR.cells {w w1 : World} {B D TR TI g gn go : Nat} {ow : Ow} {m : Dm} {nv ov : List Value} (h : DR w B D TR TI g ow m gn go nv ov) (m2 : Dm) (hnow : m2.now = m.now) (hold : m2.old = m.old ∨ m2.old = [])
    (hb : ∀ b, b ≠ g → w1.heap[b]? = w.heap[b]?) (hB : Below B w w1)
    (hg : w1.heap[g]? = some (.cells #[.slice (some ⟨gn, 0, none⟩) m2.now.length m2.now.length, slV go m2.old.length, .int .i64 (m2.next : Int), .int .i64 (m2.many : Int)] D (0, 0))) :
    DR w1 B D TR TI g ow m2 gn go nv ov ∧ Chg B g ow ow w w1 := by
  have tab : ∀ b v l, Tab w B TR TI g ow b v l → Tab w1 B TR TI g ow b v l := fun b v l ht => by
    refine ⟨ht.base, ht.tag, ?_, ht.len, fun k x hx => ?_⟩
    · rw [hb b (fun e => by have t1 := ht.tag; rw [e, h.tag] at t1; simp at t1)]; exact ht.blk
    · obtain ⟨y, y1, y2, y3⟩ := ht.rows k x hx
      refine ⟨y, y1, own_keep y2 fun q hq o ho => ?_, y3⟩
      rw [hb q (fun e => by have t1 := y3 q hq; rw [e, h.tag] at t1; simp at t1)]; exact ho
  refine ⟨⟨h.base, h.tag, hg, by rw [hnow]; exact tab _ _ _ h.now, fun ho => ?_⟩, ⟨hB, fun _ _ => rfl, fun b _ hr => hb b (fun e => hr (by rw [e, h.tag]))⟩⟩
  rcases hold with e | e
  · rw [e] at ho ⊢
    exact ⟨tab _ _ _ (h.old ho).1, (h.old ho).2⟩
  · exact absurd e ho
/-- A newer table is begun: its block is bn, new. -/
theorem DR.begin {w w1 : World} {B D TR TI g gn go : Nat} {ow : Ow} {m : Dm} {nv ov : List Value} (h : DR w B D TR TI g ow m gn go nv ov) (n bn : Nat) (hold : m.old = []) (hn : 0 < m.now.length) (hbn : w.heap.size ≤ bn) (hBw : B ≤ w.heap.size)
    (hb : ∀ b, b < w.heap.size → b ≠ g → w1.heap[b]? = w.heap[b]?) (hB : Below B w w1)
    (hnew : w1.heap[bn]? = some (.cells (List.replicate n (.slice none 0 0)).toArray TR (0, 0)))
    (hg : w1.heap[g]? = some (.cells #[.slice (some ⟨bn, 0, none⟩) n n, .slice (some ⟨gn, 0, none⟩) m.now.length m.now.length, .int .i64 (m.next : Int), .int .i64 (m.many : Int)] D (0, 0))) :
    ∃ ow', DR w1 B D TR TI g ow' { m with now := List.replicate n [], old := m.now } bn gn (List.replicate n (.slice none 0 0)) nv ∧ Chg B g ow ow' w w1 := by
  have hgg := lt_of_blk h.blk
  have hgn := lt_of_blk h.now.blk
  refine ⟨fun b => if b < w.heap.size then ow b else (g + 1, 1, 0), ⟨h.base, ?_, ?_, ⟨by omega, ?_, hnew, by simp, ?_⟩, fun _ => ⟨⟨h.now.base, ?_, ?_, h.now.len, ?_⟩, by omega⟩⟩, ⟨hB, ?_, ?_⟩⟩
  · (try dsimp only); rw [if_pos hgg]; exact h.tag
  · (try dsimp only)
    rw [slV_pos hn, List.length_replicate]; exact hg
  · (try dsimp only); rw [if_neg (by omega)]
  · intro k x hx
    dsimp only at hx
    rw [List.getElem?_replicate] at hx
    split at hx
    · injection hx with hx; subst hx
      rename_i hk
      refine ⟨.slice none 0 0, by rw [List.getElem?_replicate, if_pos hk], World.ownsRow_nil _ _ _ _, fun q hq => by simp [Value.ownBlock] at hq⟩
    · cases hx
  · (try dsimp only); rw [if_pos hgn]; exact h.now.tag
  · rw [hb gn hgn (fun e => by have t1 := h.tag; rw [← e, h.now.tag] at t1; simp at t1)]; exact h.now.blk
  · intro j x hx
    obtain ⟨y, y1, y2, y3⟩ := h.now.rows j x hx
    refine ⟨y, y1, own_keep y2 fun q hq o ho => ?_, fun q hq => ?_⟩
    · rw [hb q (lt_of_blk ho) (fun e => by have t1 := y3 q hq; rw [e, h.tag] at t1; simp at t1)]; exact ho
    · (try dsimp only); rw [if_pos (y2.lt q hq).2]; exact y3 q hq
  · intro b hb'; (try dsimp only); rw [if_pos hb']
  · intro b hb' hr
    exact hb b hb' (fun e => hr (by rw [e, h.tag]))
end Go.Proofs.YtfdcacjfngjmdaaDoor.T
