import Derived.Deep.DeepCutAuto
import Derived.Laws.OwnMore
import Derived.OwnWalk
import Derived.Lib.AppendStr
import Derived.Laws.IdiomStrings
import Derived.Lib.ConvBytes
import Derived.Lib.SmallJoins
import Derived.IntWalk
import Derived.Deep.AppendLies
import Derived.Deep.RegionLaw
import Derived.Test.YtdpgkihecpjijaaDoorProg
import Derived.Test.YtdpgkihecpjijaaDoorMem
import Derived.Test.YtdpgkihecpjijaaDoorVs
import Derived.Test.YtdpgkihecpjijaaDoorVt
import Derived.Test.YtdpgkihecpjijaaDoorVu
import Derived.Test.YtdpgkihecpjijaaDoorVw
import Derived.Test.YtdpgkihecpjijaaDoorVx
import Derived.Test.YtdpgkihecpjijaaDoorWb
import Derived.Test.YtdpgkihecpjijaaDoorWc
import Derived.Test.YtdpgkihecpjijaaDoorWf
import Derived.Test.YtdpgkihecpjijaaDoorWw
import Derived.Test.YtdpgkihecpjijaaDoorXj
import Derived.Test.YtdpgkihecpjijaaDoorXk
import Derived.WalkKit
import Derived.Outline
import Derived.WalkLawsBesides
import Derived.Deep.QuietTactic
import Derived.BigQuiet
import Derived.Lib.Hide
import Derived.Handy
import Derived.Deep.RegionHeld3
import Derived.Deep.DrawnRows
import Derived.KernelRfl
import Derived.Great.Walk
import Derived.Test.YtdpgkihecpjijaaDoorOwn
namespace Go.Proofs.YtdpgkihecpjijaaDoor.T
open Go Go.RowKit Mem Own
set_option maxRecDepth 100000
set_option maxHeartbeats 1000000
set_option linter.unusedVariables false
set_option linter.unusedSimpArgs false

/-- Sizes that a value among the arguments has. -/
structure SzV (a : Vl) : Prop where
  np : a.pairs.length * 32 ≤ 140737488355328
  ni : a.items.length * 16 ≤ 140737488355328
  pz : ∀ p ∈ a.pairs, p.1.size ≤ 140737488355328 ∧ p.2.size ≤ 140737488355328
  iz : ∀ x ∈ a.items, x.size ≤ 140737488355328
def qm (s : ByteArray) : ByteArray := s ++ ⟨#[63]⟩
theorem qm_size (s : ByteArray) : (qm s).size = s.size + 1 := by unfold qm; rw [ByteArray.size_append]; rfl
def mutI (j : Nat) (l : List ByteArray) : List ByteArray := (l.take j).map qm ++ l.drop j
def mutP (j : Nat) (l : List (ByteArray × ByteArray)) : List (ByteArray × ByteArray) := (l.take j).map (fun p => (qm p.1, p.2)) ++ l.drop j
theorem mutI_len (j : Nat) (l : List ByteArray) : (mutI j l).length = l.length := by simp [mutI]; omega
theorem mutP_len (j : Nat) (l : List (ByteArray × ByteArray)) : (mutP j l).length = l.length := by simp [mutP]; omega
theorem mutI_zero (l : List ByteArray) : mutI 0 l = l := by simp [mutI]
theorem mutP_zero (l : List (ByteArray × ByteArray)) : mutP 0 l = l := by simp [mutP]
theorem mutI_all {j : Nat} {l : List ByteArray} (h : l.length ≤ j) : mutI j l = l.map qm := by simp [mutI, List.take_of_length_le h, List.drop_of_length_le h]
theorem mutP_all {j : Nat} {l : List (ByteArray × ByteArray)} (h : l.length ≤ j) : mutP j l = l.map (fun p => (qm p.1, p.2)) := by simp [mutP, List.take_of_length_le h, List.drop_of_length_le h]
theorem mutI_get {j : Nat} {l : List ByteArray} (h : j < l.length) : (vs (mutI j l))[j]? = some (.string l[j]) := by
  have h1 : ((l.take j).map qm).length = j := by simp; omega
  simp only [vs, mutI, List.getElem?_map]
  rw [List.getElem?_append_right (by omega), h1, Nat.sub_self, List.getElem?_drop, Nat.add_zero, List.getElem?_eq_getElem h]
  rfl
theorem mutI_set {j : Nat} {l : List ByteArray} (h : j < l.length) : (vs (mutI j l)).set j (.string (qm l[j])) = vs (mutI (j + 1) l) := by
  have h1 : ((l.take j).map qm).length = j := by simp; omega
  simp only [vs, ← List.map_set]
  congr 1
  unfold mutI
  rw [List.set_append_right _ _ (by omega), h1, Nat.sub_self, List.drop_eq_getElem_cons h, List.set_cons_zero, List.take_succ_eq_append_getElem h, List.map_append, List.append_assoc]
  rfl
theorem psv_append (l m : List (ByteArray × ByteArray)) : psv (l ++ m) = psv l ++ psv m := by simp [psv]
theorem mutP_get {j : Nat} {l : List (ByteArray × ByteArray)} (h : j < l.length) : (psv (mutP j l))[j * 2]? = some (.string l[j].1) := by
  have hj : (mutP j l)[j]? = some l[j] := by
    have h1 : ((l.take j).map (fun p : ByteArray × ByteArray => (qm p.1, p.2))).length = j := by simp; omega
    unfold mutP
    rw [List.getElem?_append_right (by omega), h1, Nat.sub_self, List.getElem?_drop, Nat.add_zero, List.getElem?_eq_getElem h]
  exact (psv_get _ _ _ hj).1
theorem mutP_set {j : Nat} {l : List (ByteArray × ByteArray)} (h : j < l.length) : (psv (mutP j l)).set (j * 2) (.string (qm l[j].1)) = psv (mutP (j + 1) l) := by
  have h1 : (psv ((l.take j).map (fun p : ByteArray × ByteArray => (qm p.1, p.2)))).length = j * 2 := by rw [psv_len]; simp; omega
  unfold mutP
  rw [psv_append, List.set_append_right _ _ (by omega), h1, Nat.sub_self, List.drop_eq_getElem_cons h, List.take_succ_eq_append_getElem h, List.map_append, List.append_assoc, psv_append]
  rfl
/-- What stands while the copy is written into: the boxes of both arguments, that of the copy, and its rows. -/
structure SmSt (w0 : World) (oa ob : Obj) (k : Int) (t : ByteArray) (re im : Int) (C : Option Addr) (np ck : Nat) (D : Option Addr) (ni dk b5 : Nat) (pl : List Value) (il : List Value) (w : World) : Prop where
  ha : w.heap[w0.heap.size]? = some oa
  hb : w.heap[w0.heap.size + 1]? = some ob
  hc : w.heap[b5]? = some (vO k t C np ck D ni dk re im)
  h5 : w0.heap.size + 1 < b5
  op : w.ownsRow (w0.heap.size + 2) 44 2 (.slice C np ck) np pl
  oi : w.ownsRow (w0.heap.size + 2) 9 1 (.slice D ni dk) ni il
  bl : Below w0.heap.size w0 w
theorem SmSt.below {w0 w w' : World} {oa ob : Obj} {k : Int} {t : ByteArray} {re im : Int} {C : Option Addr} {np ck : Nat} {D : Option Addr} {ni dk b5 : Nat} {pl il : List Value}
    (h : SmSt w0 oa ob k t re im C np ck D ni dk b5 pl il w) (hb : Below w.heap.size w w') : SmSt w0 oa ob k t re im C np ck D ni dk b5 pl il w' :=
  ⟨keep_block hb h.ha, keep_block hb h.hb, keep_block hb h.hc, h.h5, own_bel h.op hb, own_bel h.oi hb, h.bl.trans (hb.mono h.bl.size)⟩
theorem own_typ {w : World} {T : TypeId} {sz B n : Nat} {v : Value} {xs : List Value} (h : w.ownsRow B T sz v n xs) : ∀ k, v.ownBlock = some k → ∃ cs fr, w.heap[k]? = some (.cells cs T fr) := by
  intro k hk
  rcases h.2 with ⟨rfl, _⟩ | ⟨g, cap, cur, rfl, _, hg, _⟩
  · simp [Value.ownBlock] at hk
  · simp [Value.ownBlock] at hk
    subst hk
    exact ⟨_, _, hg⟩
theorem typ_ne {w : World} {g b : Nat} {cs cs' : Array Value} {T T' : TypeId} {fr fr' : Nat × Nat} (h : w.heap[g]? = some (.cells cs T fr)) (h' : w.heap[b]? = some (.cells cs' T' fr')) (hne : T ≠ T') : g ≠ b := by
  rintro rfl
  rw [h] at h'
  injection h' with h'; injection h' with _ h' _
  exact hne h'
theorem SmSt.storeI {w0 w : World} {oa ob : Obj} {k : Int} {t : ByteArray} {re im : Int} {C : Option Addr} {np ck : Nat} {g : Nat} {ni dk b5 : Nat} {pl il : List Value}
    (h : SmSt w0 oa ob k t re im C np ck (some ⟨g, 0, none⟩) ni dk b5 pl il w) (j : Nat) (u : Value) : SmSt w0 oa ob k t re im C np ck (some ⟨g, 0, none⟩) ni dk b5 pl (il.set j u) (w.setCell ⟨g, j, none⟩ u) := by
  have hg := (h.oi.lt g rfl).1
  obtain ⟨cs, fr, hgb⟩ := own_typ h.oi g rfl
  have hne : b5 ≠ g := fun e => typ_ne hgb h.hc (by decide) e.symm
  refine ⟨blk_other (by omega) h.ha, blk_other (by omega) h.hb, blk_other hne h.hc, h.h5, h.op.kept (only_set w g j u) ?_, (h.oi.stored j u).1, h.bl.setCell (by dsimp only; omega) _⟩
  cases hv : (Value.slice C np ck).ownBlock with
  | none => exact .inl rfl
  | some q =>
    right
    intro e
    injection e with e
    obtain ⟨cs', fr', hq⟩ := own_typ h.op q hv
    exact typ_ne hgb hq (by decide) e.symm
theorem SmSt.storeP {w0 w : World} {oa ob : Obj} {k : Int} {t : ByteArray} {re im : Int} {g : Nat} {np ck : Nat} {D : Option Addr} {ni dk b5 : Nat} {pl il : List Value}
    (h : SmSt w0 oa ob k t re im (some ⟨g, 0, none⟩) np ck D ni dk b5 pl il w) (j : Nat) (u : Value) : SmSt w0 oa ob k t re im (some ⟨g, 0, none⟩) np ck D ni dk b5 (pl.set j u) il (w.setCell ⟨g, j, none⟩ u) := by
  have hg := (h.op.lt g rfl).1
  obtain ⟨cs, fr, hgb⟩ := own_typ h.op g rfl
  have hne : b5 ≠ g := fun e => typ_ne hgb h.hc (by decide) e.symm
  refine ⟨blk_other (by omega) h.ha, blk_other (by omega) h.hb, blk_other hne h.hc, h.h5, (h.op.stored j u).1, h.oi.kept (only_set w g j u) ?_, h.bl.setCell (by dsimp only; omega) _⟩
  cases hv : (Value.slice D ni dk).ownBlock with
  | none => exact .inl rfl
  | some q =>
    right
    intro e
    injection e with e
    obtain ⟨cs', fr', hq⟩ := own_typ h.oi q hv
    exact typ_ne hgb hq (by decide) e.symm
open Classical in
noncomputable def eB (a b : Vl) : Bool := decide (a = b)
theorem vsame_any (v u : Value) (a b : Vl) (w : World) (hv : VRd w v a) (hu : VRd w u b) : Calls Tryd.prog 25 #[v, u] w fun e w' => e = .returned (.bool (eB a b)) ∧ Below w.heap.size w w' :=
  (vsame_is v u a b w hv hu).mono fun e w' ⟨r, h1, h2, h3⟩ => ⟨by rw [h1]; unfold eB; congr 2; cases r <;> simp at h2 ⊢ <;> exact h2, h3⟩
theorem rsame_any (v u : Value) (a b : Vl) (w : World) (hv : VRd w v a) (hu : VRd w u b) : Calls Tryd.prog 17 #[v, u] w fun e w' => e = .returned (.bool (eB a b)) ∧ Below w.heap.size w w' :=
  (rsame_is v u a b w hv hu).mono fun e w' ⟨r, h1, h2, h3⟩ => ⟨by rw [h1]; unfold eB; congr 2; cases r <;> simp at h2 ⊢ <;> exact h2, h3⟩
theorem SmSt.vrd {w0 w : World} {oa ob : Obj} {k : Int} {t : ByteArray} {re im : Int} {C : Option Addr} {np ck : Nat} {D : Option Addr} {ni dk b5 : Nat} {ps : List (ByteArray × ByteArray)} {is : List ByteArray}
    (h : SmSt w0 oa ob k t re im C np ck D ni dk b5 (psv ps) (vs is) w) (hp : ps.length ≤ maxLen) (hi : is.length ≤ maxLen) (ht : t.size ≤ maxLen) (pz : ∀ p ∈ ps, p.1.size ≤ maxLen ∧ p.2.size ≤ maxLen) (iz : ∀ x ∈ is, x.size ≤ maxLen) :
    VRd w (vV k t C np ck D ni dk re im) ⟨k, t, ps, is, re, im⟩ := by
  obtain ⟨h1, rfl⟩ := ownP_rd h.op
  have h3 := own_len h.oi
  subst h3
  have h2 := (own_rd h.oi).1
  exact ⟨⟨C, ck, D, dk, rfl, h1, h2⟩, hp, hi, ht, pz, iz⟩
end Go.Proofs.YtdpgkihecpjijaaDoor.T
