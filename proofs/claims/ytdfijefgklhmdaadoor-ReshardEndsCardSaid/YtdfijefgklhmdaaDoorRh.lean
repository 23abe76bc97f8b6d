import Derived.Deep.DeepCutAuto
import Derived.Laws.OwnMore
import Derived.OwnWalk
import Derived.Lib.AppendStr
import Derived.Lib.SliceRun
import Derived.Lib.SmallJoins
import Derived.IntWalk
import Derived.Lib.ItoaLen
import Derived.Test.YtdfijefgklhmdaaDoorProg
import Derived.Test.YtdfijefgklhmdaaDoorShelf
import Derived.Test.YtdfijefgklhmdaaDoorMem
import Derived.Test.YtdfijefgklhmdaaDoorR1
import Derived.Test.YtdfijefgklhmdaaDoorRa
import Derived.Test.YtdfijefgklhmdaaDoorRb
import Derived.Test.YtdfijefgklhmdaaDoorRc
import Derived.Test.YtdfijefgklhmdaaDoorRf
import Derived.Test.YtdfijefgklhmdaaDoorRg
import Derived.WalkKit
import Derived.Outline
import Derived.WalkLawsBesides
import Derived.Deep.QuietTactic
import Derived.BigQuiet
import Derived.Lib.Hide
import Derived.Handy
import Derived.Deep.RegionHeld3
import Derived.Deep.DrawnRows
import Derived.KernelRfl
import Derived.Great.Walk
import Derived.Test.YtdfijefgklhmdaaDoorOwn
namespace Go.Proofs.YtdfijefgklhmdaaDoor.T
open Go Go.RowKit Go.Sort Mem Own
set_option maxRecDepth 100000
set_option maxHeartbeats 1000000
set_option linter.unusedVariables false
set_option linter.unusedSimpArgs false

theorem typ_ne {w : World} {g b : Nat} {cs cs' : Array Value} {T T' : TypeId} {fr fr' : Nat × Nat} (h : w.heap[g]? = some (.cells cs T fr)) (h' : w.heap[b]? = some (.cells cs' T' fr')) (hne : T ≠ T') : g ≠ b := by
  rintro rfl
  rw [h] at h'
  injection h' with h'; injection h' with _ h' _
  exact hne h'
theorem own_typ {w : World} {T : TypeId} {sz B n : Nat} {v : Value} {xs : List Value} (h : w.ownsRow B T sz v n xs) : ∀ k, v.ownBlock = some k → ∃ cs fr, w.heap[k]? = some (.cells cs T fr) := by
  intro k hk
  rcases h.2 with ⟨rfl, _⟩ | ⟨g, cap, cur, rfl, _, hg, _⟩
  · simp [Value.ownBlock] at hk
  · simp [Value.ownBlock] at hk
    subst hk
    exact ⟨_, _, hg⟩
/-- The driver that New makes. -/
def newD (l : List Mv) (B T : Int) : Dr := ⟨l, B, T, 0, 0, [], 0, false⟩
theorem newD_rd {l : List Mv} {B T : Int} {w : World} {g Bs : Nat} {C : Option Addr} {k : Nat} (h : w.heap[g]? = some (.cells #[.slice C l.length k, .int .i64 B, .int .i64 T, .int .i64 0, .int .i64 0, .slice none 0 0, .int .i64 0, .bool false] 60 (0, 0)))
    (ho : w.ownsRow Bs 37 3 (.slice C l.length k) l.length (mvs l)) : DrRd w g C k none 0 (newD l B T) := by
  refine ⟨h, (ownM_rd ho).1, .inl rfl, fun b off e => ?_, (fun b off e => by cases e), Nat.zero_le _⟩
  obtain ⟨cs, fr, hb⟩ := own_typ ho b (by rw [e]; rfl)
  exact typ_ne hb h (by decide)
theorem newErr_zero {l : List Mv} {B T : Int} (h : newErr l B T = 0) : l.length ≤ 1000 ∧ okP l ∧ ¬ badBT B T := by
  unfold newErr at h
  split at h
  · cases h
  · rename_i h1
    split at h
    · cases h
    · rename_i h2
      have ha : ¬ 1000 < l.length := fun hx => h1 (.inl hx)
      exact ⟨by omega, Classical.byContradiction fun hx => h1 (.inr hx), h2⟩
theorem newD_ok {l : List Mv} {B T : Int} (h : newErr l B T = 0) : DrOk (newD l B T) := by
  obtain ⟨h1, h2, h3⟩ := newErr_zero h
  unfold badBT at h3
  exact ⟨h1, h2, by dsimp only [newD]; omega, Nat.zero_le _, .inl rfl, by dsimp only [newD]; omega⟩
theorem DrRd.below {w w' : World} {g : Nat} {P : Option Addr} {pc : Nat} {Q : Option Addr} {qc : Nat} {D : Dr} (h : DrRd w g P pc Q qc D) (hb : Below w.heap.size w w') : DrRd w' g P pc Q qc D :=
  ⟨keep_block hb h.blk, h.pl.below hb, h.qu.below hb, h.np, h.nq, h.cp⟩
/-- Left -/
theorem left_is (g : Nat) (P : Option Addr) (pc : Nat) (Q : Option Addr) (qc : Nat) (D : Dr) (w : World) (h : DrRd w g P pc Q qc D) (hl : D.plan.length ≤ 1000) (hd : D.dn ≤ D.plan.length) : Calls Tryd.prog 16 #[.pointer (some ⟨g, 0, none⟩)] w fun e w' => e = .returned (.int .i64 ((D.plan.length : Int) - (D.dn : Int))) ∧ Below w.heap.size w w' := by
  obtain ⟨d0, d1, d2, d3, d4, d5, d6, d7⟩ := facts8 h.blk
  obtain ⟨plan, B, T, dn, call, queue, ep, failed⟩ := D
  dsimp only at d0 d1 d2 d3 d4 d5 d6 d7 hl hd ⊢
  obtain ⟨N, hN⟩ : ∃ N, N = plan.length := ⟨_, rfl⟩
  rw [← hN] at d0 hl hd ⊢
  clear hN h
  have hw : IntKind.i64.wrap ((N : Int) - (dn : Int)) = (N : Int) - (dn : Int) := by rw [IntKind.wrap_i64]; omega
  go_enter Tryd.func16, Tryd.ntmps16
  go_wp2
  go_quiet (fail)
  go_wp2
  go_ret
  exact ⟨rfl, (by ((repeat (first | exact Below.refl _ _ | (refine Below.drew ?_) | (refine Go.below_drewN ?_ _) | (refine Below.alloc ?_ (by first | (simp; done) | omega | (simp; omega)) _) | (refine Below.setCell ?_ (by first | (simp; done) | omega | (simp; omega)) _) | (refine Below.trans ?_ (Below.mono (by assumption) (by first | (simp; done) | omega | (simp; omega)))))); done))⟩
def mv1 : Mv := ⟨5, 1, 2⟩
theorem mv1_err : newErr [mv1] 10 0 = 0 := by
  refine newErr_ok (by decide) ?_ (by unfold badBT; omega)
  intro i hi m hm
  have : i = 0 := by simp at hi; omega
  subst this
  simp at hm
  subst hm
  exact ⟨by unfold okM mv1; decide, by simp⟩
theorem dec5 : dec 5 = ⟨#[53]⟩ := by decide +kernel
theorem dec1 : dec 1 = ⟨#[49]⟩ := by decide +kernel
theorem lit_rdM (w : World) (m : Mv) : RdM (w.alloc (.cells #[.int .i64 m.s, .int .i64 m.f, .int .i64 m.t] 37)) (some ⟨w.heap.size, 0, none⟩) [m] := by
  refine .inr ⟨w.heap.size, 0, rfl, fun i x hx => ?_⟩
  have hi : i = 0 := by have := (List.getElem?_eq_some_iff.1 hx).1; simp at this; omega
  subst hi
  simp at hx
  subst hx
  exact facts3 (heap_alloc_new w _)
/-- A literal's row of texts. -/
def aliveL : List ByteArray := [SETSLOT, ⟨#[53]⟩, ⟨#[73, 77, 80, 79, 82, 84, 73, 78, 71]⟩, ⟨#[49]⟩, ⟨#[49]⟩]
theorem next_alive : nextL (newD [mv1] 10 0) = aliveL ∧ nextN (newD [mv1] 10 0) = 2 := by
  constructor
  · show [SETSLOT, dec 5, _, dec 1, dec (0 + 0 + 1)] = aliveL
    rw [dec5, show (0 + 0 + 1 : Int) = 1 from rfl, dec1]; rfl
  · rfl
theorem alive_is (w : World) (hT : Tab w) : Calls Tryd.prog 8 #[] w fun e w' => e = .returned (.bool true) ∧ Below w.heap.size w w' := by
  have HT := Lib.hid hT
  clear hT
  have HRM := Lib.hid (lit_rdM w mv1)
  have HB0 := Lib.hid ((Below.refl w.heap.size w).alloc (Nat.le_refl _) (.cells #[.int .i64 5, .int .i64 1, .int .i64 2] 37))
  go_enter Tryd.func8, Tryd.ntmps8
  go_upto_region 4 with (go_at_call 9; refine Calls.mono (new_is _ [mv1] 1 10 0 _ HRM.out (by decide) (by decide)) ?_; rintro e w1 (⟨h1, -, -⟩ | ⟨-, g, C, k, rfl, hg, HG, HO, hb1⟩); (focus exact absurd mv1_err h1))
  have HB1 := Lib.hid (show Below w.heap.size w w1 from (by ((repeat (first | exact Below.refl _ _ | (refine Below.drew ?_) | (refine Go.below_drewN ?_ _) | (refine Below.alloc ?_ (by first | (simp; done) | omega | (simp; omega)) _) | (refine Below.setCell ?_ (by first | (simp; done) | omega | (simp; omega)) _) | (refine Below.trans ?_ (Below.mono (by assumption) (by first | (simp; done) | omega | (simp; omega)))))); done)))
  have hz1 := HB1.out.size
  have HD := Lib.hid (newD_rd HG.out HO.out)
  have HNX := Lib.hid (next_main g C k none 0 (newD [mv1] 10 0) w1 HD.out (newD_ok mv1_err) (by unfold atEnd newD; simp) (HT.out.keep HB1.out))
  rw [next_alive.1, next_alive.2] at HNX
  go_wp2_with (first
    | (go_at_call 13; refine Calls.mono HNX.out ?_; rintro e w2 ⟨A, c, rfl, HR, hb2⟩; have HB2 := Lib.hid (HB1.out.trans (hb2.mono hz1)); have hz2 := HB2.out.size; have hz2' := hb2.size)
    | (go_at_call 14; refine Calls.mono (refs_is _ _ aliveL aliveL _ _ _ (HR.out.below ((Below.refl _ _).alloc (Nat.le_refl _) _)) (lit_rd w2 aliveL) (by decide)) ?_; rintro e w3 ⟨rfl, hb3⟩; rw [decide_eq_true rfl]; have hz3 := hb3.size; rw [alloc_size] at hz3; have HD3 := Lib.hid (((HD.out.below hb2).below ((Below.refl _ _).alloc (Nat.le_refl _) (.cells (aliveL.map Value.string).toArray 9))).below hb3))
    | (go_at_call 16; refine Calls.mono (left_is g C k none 0 (newD [mv1] 10 0) _ HD3.out (by decide) (by decide)) ?_; rintro e w4 ⟨rfl, hb4⟩; rw [show ((newD [mv1] 10 0).plan.length : Int) - ((newD [mv1] 10 0).dn : Int) = 1 from rfl]))
  go_ret
  exact ⟨rfl, HB2.out.trans (((((Below.refl w2.heap.size w2).alloc (Nat.le_refl _) (.cells (aliveL.map Value.string).toArray 9)).trans (hb3.mono (by rw [alloc_size]; omega))).trans (hb4.mono (by omega))).mono hz2)⟩
end Go.Proofs.YtdfijefgklhmdaaDoor.T
