import Derived.Deep.DeepCutAuto
import Derived.Laws.OwnMore
import Derived.OwnWalk
import Derived.Lib.AppendStr
import Derived.Lib.SliceRun
import Derived.Lib.SmallJoins
import Derived.IntWalk
import Derived.WalkMore
import Derived.Lib.OthersKept
import Derived.Deep.LoopGhost
import Derived.Deep.RegionLaw
import Derived.Deep.AppendLies
import Derived.Test.YtmflalnajinejaaProg
import Derived.Test.YtmflalnajinejaaMem
import Derived.Test.YtmflalnajinejaaBlk
import Derived.Test.YtmflalnajinejaaAp
import Derived.Test.YtmflalnajinejaaKa
import Derived.Test.YtmflalnajinejaaKd
import Derived.Test.YtmflalnajinejaaOwn
import Derived.WalkKit
import Derived.Outline
import Derived.WalkLawsBesides
import Derived.Deep.QuietTactic
import Derived.BigQuiet
import Derived.Lib.Hide
import Derived.Handy
import Derived.Deep.RegionHeld3
import Derived.Deep.DrawnRows
import Derived.KernelRfl
import Derived.Great.Walk
import Derived.Test.YtmflalnajinejaaOwn
namespace Go.Proofs.Ytmflalnajinejaa.T
open Go Go.RowKit Go.Sort Mem Own
set_option maxRecDepth 100000
set_option maxHeartbeats 1000000
set_option linter.unusedVariables false
set_option linter.unusedSimpArgs false

open Go.WideMaps Go.Maps
/-- A slice held in a map: as it is. -/
def RV (v : Value) : Option (DataW Value × List MemPlace) := some (.held v, [])
theorem isKey (x : En) : WideAt.IsKeyLit (enK x) := trivial
/-- Block b is a map of slices by links that reads as m. -/
def LM (w : World) (b n : Nat) (m : En → Option Value) : Prop :=
  ∃ D, w.ownsMap Try.prog 40 RV b n D ∧ ∀ x : En, x.wf → (m x = none ∧ has D (enK x) = false) ∨ ∃ v, m x = some v ∧ has D (enK x) = true ∧ ∀ z, D.atKey (enK x) z = .held v
def upd (m : En → Option Value) (x : En) (o : Option Value) : En → Option Value := fun y => if y = x then o else m y
theorem zero63 (w : World) : (zeroValue 63).run Try.prog w = .ok (.slice none 0 0) w := by
  obtain ⟨i, hi, hz, _, _⟩ := info_parts (P := Try.prog) (e := 63) (z := .slice none 0 0) (size := 1) (bytes := 24) (by kernel_rfl)
  simp [zeroValue, typeInfo, hi, hz]
theorem LM.kept {w w' : World} {b n : Nat} {m : En → Option Value} {row : Option Nat} (h : LM w b n m) (hg : w.grownBy w' row) (hne : some b ≠ row) : LM w' b n m := by
  obtain ⟨D, h1, h2⟩ := h
  exact ⟨D, h1.kept hg hne, h2⟩
theorem LM.mono {w : World} {b n n' : Nat} {m : En → Option Value} (h : LM w b n m) (hn : n ≤ n') : LM w b n' m := by
  obtain ⟨D, h1, h2⟩ := h
  exact ⟨D, h1.mono hn, h2⟩
theorem LM.made (w : World) : LM (w.alloc (.map #[] 0)) w.heap.size 0 (fun _ => none) :=
  ⟨_, World.ownsMap_made w Try.prog 40 RV, fun x _ => .inl ⟨rfl, rfl⟩⟩
theorem LM.isMap {w : World} {b n : Nat} {m : En → Option Value} (h : LM w b n m) : ∃ es ck, w.heap[b]? = some (.map es ck) := by
  obtain ⟨D, ⟨es, ck, h, _⟩, _⟩ := h
  exact ⟨es, ck, h⟩
theorem LM.look {w : World} {b n : Nat} {m : En → Option Value} (h : LM w b n m) {x : En} (hx : x.wf) : (Instr.lookup 51 (.map (some b)) (enV x) false).run Try.prog w = .ok ((m x).getD (.slice none 0 0)) w := by
  obtain ⟨D, h1, h2⟩ := h
  obtain ⟨v, ps, h3, h4⟩ := h1.lookup K40 Try.underlying51 (zero63 w) (zd := .held (.slice none 0 0)) (zp := []) rfl (keyOf_en hx)
  rw [h3]
  rcases h2 x hx with ⟨e, e2⟩ | ⟨u, e, _, e2⟩
  · rw [atKey_of_not_has e2] at h4
    rw [e]
    cases h4; rfl
  · rw [e2] at h4
    rw [e]
    cases h4; rfl
theorem enK_ne {x y : En} (hx : x.wf) (hy : y.wf) (h : y ≠ x) : enK y ≠ enK x := fun e => h (enK_inj hy hx e)
theorem LM.put {w : World} {b n : Nat} {m : En → Option Value} (h : LM w b n m) (hn : n < maxLen) {x : En} (hx : x.wf) (v : Value) :
    ∃ w', (Instr.mapUpdate 51 (.map (some b)) (enV x) v).run Try.prog w = .ok () w' ∧ LM w' b (n + 1) (upd m x (some v)) ∧ w.mapTurned w' b := by
  obtain ⟨D, h1, h2⟩ := h
  obtain ⟨w', h3, h4, h5⟩ := h1.store K40 Try.underlying51 hn (keyOf_en hx) (val := v) (d := .held v) (ps := []) rfl
  refine ⟨w', h3, ⟨_, h4, fun y hy => ?_⟩, h5⟩
  by_cases e : y = x
  · subst e
    exact .inr ⟨v, by simp [upd], has_put_same h1.isMap (isKey y) _, fun z => atKey_put_same h1.isMap (isKey y) _ z⟩
  · have hk := enK_ne hx hy e
    rcases h2 y hy with ⟨e1, e2⟩ | ⟨u, e1, e2, e3⟩
    · exact .inl ⟨by simp [upd, e, e1], by rw [has_put_other hk]; exact e2⟩
    · exact .inr ⟨u, by simp [upd, e, e1], by rw [has_put_other hk]; exact e2, fun z => by rw [atKey_put_other hk]; exact e3 z⟩
theorem LM.del {w : World} {b n : Nat} {m : En → Option Value} (h : LM w b n m) {x : En} (hx : x.wf) (ty : TypeId) :
    ∃ w', (Builtin.delete_ #[51, 40] ty #[.map (some b), enV x]).run Try.prog w = .ok (.tuple #[]) w' ∧ LM w' b n (upd m x none) ∧ w.mapTurned w' b := by
  obtain ⟨D, h1, h2⟩ := h
  obtain ⟨w', h3, h4, h5⟩ := h1.drop K40 Try.underlying51 (keyOf_en hx) ty
  refine ⟨w', h3, ⟨_, h4, fun y hy => ?_⟩, h5⟩
  by_cases e : y = x
  · subst e
    exact .inl ⟨by simp [upd], has_del_same⟩
  · have hk := enK_ne hx hy e
    rcases h2 y hy with ⟨e1, e2⟩ | ⟨u, e1, e2, e3⟩
    · exact .inl ⟨by simp [upd, e, e1], by rw [has_del_other hk]; exact e2⟩
    · exact .inr ⟨u, by simp [upd, e, e1], by rw [has_del_other hk]; exact e2, fun z => by rw [atKey_del_other hk]; exact e3 z⟩
/-- The queues of a link, as they lie in a map. -/
def Queues (w : World) (m : En → Option Value) (n : Nat) (Q : En → List Lt) : Prop :=
  ∀ x : En, (Q x).length ≤ n ∧ ((m x = none ∧ Q x = []) ∨ ∃ A c, m x = some (.slice A (Q x).length c) ∧ Q x ≠ [] ∧ (Q x).length ≤ c ∧ c ≤ maxLen ∧ RdL w A (Q x))
/-- A Links: its box g, its map b. -/
structure LK (w : World) (g b n : Nat) (Q : En → List Lt) : Prop where
  cell : w.cell? ⟨g, 0, none⟩ = some (.map (some b))
  ex : ∃ m, LM w b n m ∧ Queues w m n Q
theorem Queues.keeps {w w' : World} {m : En → Option Value} {n : Nat} {Q : En → List Lt} (h : Queues w m n Q) (hk : Keeps w w') : Queues w' m n Q := by
  intro x
  obtain ⟨h1, h2 | ⟨A, c, h3, h4, h5, h6, h7⟩⟩ := h x
  · exact ⟨h1, .inl h2⟩
  · exact ⟨h1, .inr ⟨A, c, h3, h4, h5, h6, h7.keeps hk⟩⟩
theorem LK.kept {w w' : World} {g b n : Nat} {Q : En → List Lt} (h : LK w g b n Q) {row : Option Nat} (hg : w.grownBy w' row) (hne : some b ≠ row) (hk : Keeps w w') : LK w' g b n Q := by
  obtain ⟨h1, m, h2, h3⟩ := h
  exact ⟨hk _ _ h1, m, h2.kept hg hne, h3.keeps hk⟩
theorem below_grown {w w' : World} (hb : Below w.heap.size w w') : w.grownBy w' none := ⟨hb.os, hb.tape, hb.output, hb.size, fun k hk _ => hb.block k hk⟩
theorem LK.below {w w' : World} {g b n : Nat} {Q : En → List Lt} (h : LK w g b n Q) (hb : Below w.heap.size w w') : LK w' g b n Q := h.kept (below_grown hb) (by simp) (keeps_below hb)
theorem LK.mono {w : World} {g b n n' : Nat} {Q : En → List Lt} (h : LK w g b n Q) (hn : n ≤ n') : LK w g b n' Q := by
  obtain ⟨h1, m, h2, h3⟩ := h
  exact ⟨h1, m, h2.mono hn, fun x => ⟨Nat.le_trans (h3 x).1 hn, (h3 x).2⟩⟩
/-- What a call on map b may turn. -/
def Turn (b : Nat) (w w' : World) : Prop := w.grownBy w' (some b)
theorem LK.isMap {w : World} {g b n : Nat} {Q : En → List Lt} (h : LK w g b n Q) : ∃ es ck, w.heap[b]? = some (.map es ck) := h.ex.elim fun _ h => h.1.isMap
theorem LK.keeps {w w' : World} {g b n : Nat} {Q : En → List Lt} (h : LK w g b n Q) (hg : w.grownBy w' (some b)) : Keeps w w' := by
  obtain ⟨es, ck, e⟩ := h.isMap
  exact keeps_grown e hg
/-- The other Links stands. -/
theorem LK.other {w w' : World} {g b n g' b' n' : Nat} {Q Q' : En → List Lt} (h : LK w g b n Q) (h' : LK w g' b' n' Q') (hne : b ≠ b') (hg : w.grownBy w' (some b')) : LK w' g b n Q :=
  h.kept hg (by simpa using hne) (h'.keeps hg)
end Go.Proofs.Ytmflalnajinejaa.T
