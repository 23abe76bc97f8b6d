import Derived.Deep.DeepCutAuto
import Derived.Laws.OwnMore
import Derived.OwnWalk
import Derived.Lib.AppendStr
import Derived.Lib.SliceRun
import Derived.Lib.SmallJoins
import Derived.IntWalk
import Derived.Lib.ItoaLen
import Derived.Test.YtdfijefgklhmdaaDoorProg
import Derived.Test.YtdfijefgklhmdaaDoorShelf
import Derived.Test.YtdfijefgklhmdaaDoorMem
import Derived.Test.YtdfijefgklhmdaaDoorR1
import Derived.Test.YtdfijefgklhmdaaDoorRa
import Derived.Test.YtdfijefgklhmdaaDoorRb
import Derived.Test.YtdfijefgklhmdaaDoorRc
import Derived.Test.YtdfijefgklhmdaaDoorRe
import Derived.Test.YtdfijefgklhmdaaDoorRf
import Derived.Test.YtdfijefgklhmdaaDoorRg
import Derived.Test.YtdfijefgklhmdaaDoorRh
import Derived.Test.YtdfijefgklhmdaaDoorRi
import Derived.Test.YtdfijefgklhmdaaDoorRk
import Derived.Test.YtdfijefgklhmdaaDoorRl
import Derived.Test.YtdfijefgklhmdaaDoorRm
import Derived.WalkKit
import Derived.Outline
import Derived.WalkLawsBesides
import Derived.Deep.QuietTactic
import Derived.BigQuiet
import Derived.Lib.Hide
import Derived.Handy
import Derived.Deep.RegionHeld3
import Derived.Deep.DrawnRows
import Derived.KernelRfl
import Derived.Great.Walk
import Derived.Test.YtdfijefgklhmdaaDoorOwn
namespace Go.Proofs.YtdfijefgklhmdaaDoor.T
open Go Go.RowKit Go.Sort Mem Own
set_option maxRecDepth 100000
set_option maxHeartbeats 1000000
set_option linter.unusedVariables false
set_option linter.unusedSimpArgs false

theorem new_yes2 {A : Option Addr} {l : List Mv} {c : Nat} {B T : Int} {w : World} (ha : RdM w A l) (hc : l.length ≤ c) (hcm : c ≤ maxLen) (hE : newErr l B T = 0) : Calls Tryd.prog 9 #[.slice A l.length c, .int .i64 B, .int .i64 T] w fun e w' => ∃ (g : Nat) (C : Option Addr) (k : Nat), e = .returned (.tuple #[.pointer (some ⟨g, 0, none⟩), .int .i64 0]) ∧ w.heap.size ≤ g ∧ RowKit.Hid (DrRd w' g C k none 0 (newD l B T)) ∧ RowKit.Hid (∀ b off, C = some ⟨b, off, none⟩ → w.heap.size ≤ b) ∧ Below w.heap.size w w' := by
  refine (new_is A l c B T w ha hc hcm).mono ?_
  rintro e w' (⟨h, _⟩ | ⟨_, g, C, k, h1, h2, h3, h4, h5⟩)
  · exact absurd hE h
  · exact ⟨g, C, k, h1, h2, Lib.hid (newD_rd h3.out h4.out), Lib.hid (fun b off e => (h4.out.lt b (by rw [e]; rfl)).1), h5⟩
theorem ownM_cap {w : World} {B n : Nat} {A : Option Addr} {c : Nat} {xs : List Value} (h : w.ownsRow B 37 3 (.slice A n c) n xs) : n ≤ c ∧ c ≤ maxLen := by
  rcases h.2 with ⟨e, h0⟩ | ⟨g, cap, cur, e, _, hg, hnc, hcm, _⟩
  · injection e with e1 e2 e3; subst e3; exact ⟨by omega, Nat.zero_le _⟩
  · injection e with e1 e2 e3; subst e3; exact ⟨hnc, hcm⟩
theorem cell_ne {w : World} {b i : Nat} {u v : Value} {a : Addr} (h : w.cell? a = some v) (hne : a.block ≠ b) : (w.setCell ⟨b, i, none⟩ u).cell? a = some v := by
  have hb := Below.heap_setCell w ⟨b, i, none⟩ u a.block hne
  rw [← h]; exact World.cell?_of_block hb
theorem RdM.set {w : World} {A : Option Addr} {l : List Mv} (h : RdM w A l) {b i : Nat} {u : Value} (hA : ∀ b' off, A = some ⟨b', off, none⟩ → l ≠ [] → b' ≠ b) : RdM (w.setCell ⟨b, i, none⟩ u) A l := by
  by_cases hl : l = []
  · exact .inl hl
  rcases h with h | ⟨b', off, rfl, h⟩
  · exact .inl h
  · have hne := hA b' off rfl hl
    exact .inr ⟨b', off, rfl, fun j m hm => ⟨cell_ne (h j m hm).1 hne, cell_ne (h j m hm).2.1 hne, cell_ne (h j m hm).2.2 hne⟩⟩
theorem DrRd.set {w : World} {g : Nat} {C : Option Addr} {k : Nat} {D : Dr} (h : DrRd w g C k none 0 D) {b i : Nat} {u : Value} (hg : g ≠ b) (hC : ∀ b' off, C = some ⟨b', off, none⟩ → b' ≠ b) : DrRd (w.setCell ⟨b, i, none⟩ u) g C k none 0 D := by
  refine ⟨blk_other hg h.blk, h.pl.set fun b' off e _ => hC b' off e, ?_, h.np, h.nq, h.cp⟩
  rcases h.qu with h | ⟨b', off, e, _⟩
  · exact .inl h
  · cases e
/-- What stands while the moves are written over. -/
structure KpSt (w0 : World) (A : Option Addr) (l : List Mv) (c : Nat) (B T : Int) (M : Option Addr) (k : Nat) (g : Nat) (C : Option Addr) (kc : Nat) (b6 : Nat) (lim : Nat) (xs : List Value) (w : World) : Prop where
  dr : DrRd w g C kc none 0 (newD l B T)
  ra : RdM w A l
  ha : ∀ b off, A = some ⟨b, off, none⟩ → l ≠ [] → b < w0.heap.size
  om : w.ownsRow w0.heap.size 37 3 (.slice M l.length k) l.length xs
  hm : ∀ b off, M = some ⟨b, off, none⟩ → b < lim
  hg : lim ≤ g
  hC : ∀ b off, C = some ⟨b, off, none⟩ → lim ≤ b
  h6 : lim ≤ b6
  b6 : w.heap[b6]? = some (.cells #[.slice A l.length c, .int .i64 B, .int .i64 T, .int .i64 1, .slice none 0 0, .int .i64 0, .bool false] 32 (0, 0))
  bl : Below w0.heap.size w0 w
theorem KpSt.below {w0 w w' : World} {A : Option Addr} {l : List Mv} {c : Nat} {B T : Int} {M : Option Addr} {k g : Nat} {C : Option Addr} {kc b6 lim : Nat} {xs : List Value} (h : KpSt w0 A l c B T M k g C kc b6 lim xs w) (hb : Below w.heap.size w w') : KpSt w0 A l c B T M k g C kc b6 lim xs w' :=
  ⟨h.dr.below hb, h.ra.below hb, h.ha, own_bel h.om hb, h.hm, h.hg, h.hC, h.h6, keep_block hb h.b6, h.bl.trans (hb.mono h.bl.size)⟩
theorem KpSt.set {w0 w : World} {A : Option Addr} {l : List Mv} {c : Nat} {B T : Int} {gm k g : Nat} {C : Option Addr} {kc b6 lim : Nat} {xs : List Value} (h : KpSt w0 A l c B T (some ⟨gm, 0, none⟩) k g C kc b6 lim xs w) (j : Nat) (u : Value) : KpSt w0 A l c B T (some ⟨gm, 0, none⟩) k g C kc b6 lim (xs.set j u) (w.setCell ⟨gm, j, none⟩ u) := by
  have h1 := h.hm gm 0 rfl
  have h2 := (h.om.lt gm rfl).1
  have h3 := h.hg
  have h4 := h.h6
  exact ⟨h.dr.set (by omega) fun b' off e => by have := h.hC b' off e; omega, h.ra.set fun b' off e hl => by have := h.ha b' off e hl; omega, h.ha, (h.om.stored j u).1, h.hm, h.hg, h.hC, h.h6, blk_other (by omega) h.b6, h.bl.setCell (by dsimp only; omega) _⟩
theorem RdM.old {w : World} {A : Option Addr} {l : List Mv} (h : RdM w A l) : ∀ b off, A = some ⟨b, off, none⟩ → l ≠ [] → b < w.heap.size := by
  intro b off e hl
  rcases h with h | ⟨b', off', e', h⟩
  · exact absurd h hl
  · rw [e] at e'
    injection e' with e'
    injection e' with e1 e2 _
    cases l with
    | nil => exact absurd rfl hl
    | cons m l => have := lt_of_cell (h 0 m rfl).1; rw [e1]; exact this
theorem stands_new {g : Nat} {C : Option Addr} {kc : Nat} {A : Option Addr} {l : List Mv} {c : Nat} {B T : Int} {w : World} (hD : DrRd w g C kc none 0 (newD l B T)) (hA : RdM w A l) (h0 : newErr l B T = 0) (hT : Tab w) :
    Calls Tryd.prog 11 #[.pointer (some ⟨g, 0, none⟩), .agg #[.slice A l.length c, .int .i64 B, .int .i64 T, .int .i64 1, .slice none 0 0, .int .i64 0, .bool false]] w fun e w' => e = .returned (.bool true) ∧ Below w.heap.size w w' := by
  obtain ⟨hl, hp, hbt⟩ := newErr_zero h0
  have hok := newD_ok h0
  obtain ⟨-, -, bt3, bt4⟩ := hok.bt
  by_cases hnil : l = []
  · subst hnil
    exact stands_is g C kc (newD [] B T) A 0 c B T 1 none 0 0 0 false w 0 [] false hD (Nat.zero_le _) (Nat.le_refl _) rfl rfl (Nat.zero_le _)
      (fun wx hb => next_end g C kc none 0 _ wx (hD.below hb) (.inr rfl)) (fun wx hb => rnext_end A 0 c B T 1 none 0 0 0 false wx (.inr rfl))
  · obtain ⟨m, r, rfl⟩ : ∃ m r, l = m :: r := by cases l with | nil => exact absurd rfl hnil | cons m r => exact ⟨m, r, rfl⟩
    have hm := (hp 0 (by simp) m rfl).1
    refine stands_is g C kc (newD (m :: r) B T) A (m :: r).length c B T 1 none 0 0 0 false w m.t [SETSLOT, dec m.s, ⟨#[73, 77, 80, 79, 82, 84, 73, 78, 71]⟩, dec m.f, dec (T + 1)] true hD hl (Nat.zero_le _) (by simp [newD]) rfl (by simp)
      (fun wx hb => ?_) (fun wx hb => rnext_1 A (m :: r) c B T none 0 0 0 m wx (hA.below hb) rfl hm (by exact bt3) (by have := bt4; dsimp only [newD] at this; omega) hl)
    have h := next_main g C kc none 0 (newD (m :: r) B T) wx (hD.below hb) hok (by unfold atEnd newD; simp) (hT.keep hb)
    obtain ⟨e1, e2⟩ := (next_cases (newD (m :: r) B T) m rfl).1 rfl
    rw [e1, e2] at h
    have e3 : (newD (m :: r) B T).T + ((newD (m :: r) B T).dn : Int) + 1 = T + 1 := by simp [newD]
    rw [e3] at h
    exact h
end Go.Proofs.YtdfijefgklhmdaaDoor.T
