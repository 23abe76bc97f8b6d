import Derived.Test.YtdpgkihecpjijaaDoorProg
import Derived.Test.YtdpgkihecpjijaaDoorMem
import Derived.Test.YtdpgkihecpjijaaDoorVa
import Derived.Test.YtdpgkihecpjijaaDoorVb
import Derived.WalkKit
import Derived.Outline
import Derived.WalkLawsBesides
import Derived.Deep.QuietTactic
import Derived.BigQuiet
import Derived.Lib.Hide
import Derived.Handy
import Derived.Deep.RegionHeld3
import Derived.Deep.DrawnRows
import Derived.KernelRfl
import Derived.Sort.Walk0
import Derived.Great.Walk
import Derived.Test.YtdpgkihecpjijaaDoorOwn
namespace Go.Proofs.YtdpgkihecpjijaaDoor.T
open Go Go.RowKit Mem Own
set_option maxRecDepth 100000
set_option maxHeartbeats 1000000
set_option linter.unusedVariables false
set_option linter.unusedSimpArgs false

/-- A value. -/
structure Vl where
  kind : Int
  text : ByteArray
  pairs : List (ByteArray × ByteArray)
  items : List ByteArray
  re : Int
  im : Int
/-- How a value lies: its rows are read in the world w. -/
structure VRd (w : World) (v : Value) (a : Vl) : Prop where
  lies : ∃ PA pc IA ic, v = vV a.kind a.text PA a.pairs.length pc IA a.items.length ic a.re a.im ∧ RdP w PA a.pairs ∧ Rd w IA a.items
  np : a.pairs.length ≤ maxLen
  ni : a.items.length ≤ maxLen
  nt : a.text.size ≤ maxLen
  pz : ∀ p ∈ a.pairs, p.1.size ≤ maxLen ∧ p.2.size ≤ maxLen
  iz : ∀ x ∈ a.items, x.size ≤ maxLen
theorem VRd.below {w w' : World} {v : Value} {a : Vl} (h : VRd w v a) (hb : Below w.heap.size w w') : VRd w' v a := by
  obtain ⟨⟨PA, pc, IA, ic, rfl, h1, h2⟩, a1, a2, a3, a4, a5⟩ := h
  exact ⟨⟨PA, pc, IA, ic, rfl, h1.below hb, h2.below hb⟩, a1, a2, a3, a4, a5⟩
theorem vl_ext {a b : Vl} (h1 : a.kind = b.kind) (h2 : a.text = b.text) (h3 : a.re = b.re) (h4 : a.im = b.im) (h5 : a.pairs = b.pairs) (h6 : a.items = b.items) : a = b := by
  obtain ⟨_, _, _, _, _, _⟩ := a; obtain ⟨_, _, _, _, _, _⟩ := b; simp at *; simp [*]

theorem no_iff {p : Prop} (h : ¬ p) : (false = true ↔ p) := ⟨fun h => (by cases h), fun h' => absurd h' h⟩
/-- value.Same -/
theorem vsame_is (v u : Value) (a b : Vl) (w : World) (hv : VRd w v a) (hu : VRd w u b) :
    Calls Tryd.prog 25 #[v, u] w fun e w' => ∃ r : Bool, e = .returned (.bool r) ∧ (r = true ↔ a = b) ∧ Below w.heap.size w w' := by
  obtain ⟨⟨PA, pc, IA, ic, rfl, h1, h2⟩, a1, a2, a3, -, -⟩ := hv
  obtain ⟨⟨PB, qc, IB, jc, rfl, h3, h4⟩, b1, b2, b3, -, -⟩ := hu
  have HP := Lib.hid h1; have HI := Lib.hid h2; have HQ := Lib.hid h3; have HJ := Lib.hid h4
  have A1 := Lib.hid a1; have A2 := Lib.hid a2
  clear h1 h2 h3 h4 a1 a2 a3 b1 b2 b3
  by_cases hk : a.kind = b.kind
  · have m1 : (a.kind == b.kind) = true := by simp [hk]
    have HK := Lib.hid hk
    clear hk
    by_cases ht : a.text = b.text
    · have m2 : (a.text.toList == b.text.toList) = true := by simp [ht]
      have HTx := Lib.hid ht
      clear ht
      by_cases hr : a.re = b.re
      · have m3 : (a.re == b.re) = true := by simp [hr]
        have HR := Lib.hid hr
        clear hr
        by_cases hi : a.im = b.im
        · have m4 : (a.im == b.im) = true := by simp [hi]
          have HM := Lib.hid hi
          clear hi
          by_cases hp : a.pairs = b.pairs
          · have HD := Lib.hid (decide_eq_true hp)
            have HPP := Lib.hid hp
            clear hp
            by_cases hit : a.items = b.items
            · have HD2 := Lib.hid (decide_eq_true hit)
              have EQ := Lib.hid (vl_ext HK.out HTx.out HR.out HM.out HPP.out hit)
              clear hit
              go_enter Tryd.func25, Tryd.ntmps25
              go_wp2_with (first | (go_at_call 50; refine Calls.mono (eqp_is PA PB a.pairs b.pairs pc qc _ (HP.out.below ?_) (HQ.out.below ?_) A1.out) ?_; (focus ((repeat (first | exact Below.refl _ _ | (refine Below.drew ?_) | (refine Go.below_drewN ?_ _) | (refine Below.alloc ?_ (by first | (simp; done) | omega | (simp; omega)) _) | (refine Below.setCell ?_ (by first | (simp; done) | omega | (simp; omega)) _) | (refine Below.trans ?_ (Below.mono (by assumption) (by first | (simp; done) | omega | (simp; omega)))))); done)); (focus ((repeat (first | exact Below.refl _ _ | (refine Below.drew ?_) | (refine Go.below_drewN ?_ _) | (refine Below.alloc ?_ (by first | (simp; done) | omega | (simp; omega)) _) | (refine Below.setCell ?_ (by first | (simp; done) | omega | (simp; omega)) _) | (refine Below.trans ?_ (Below.mono (by assumption) (by first | (simp; done) | omega | (simp; omega)))))); done)); rintro e w1 ⟨rfl, hb1⟩; rw [HD.out]; have q1 : w1.cell? ⟨w.heap.size, 3, none⟩ = some (.slice IA a.items.length ic) := (by rw [hb1.cell (by simp; omega)]; simp [go_sem]); have q2 : w1.cell? ⟨w.heap.size + 1, 3, none⟩ = some (.slice IB b.items.length jc) := (by rw [hb1.cell (by simp)]; simp [go_sem]); have hz1 : w.heap.size + 1 < w1.heap.size := (by have := hb1.size; simp at this; omega)) | (go_at_call 51; refine Calls.mono (eqs_is IA IB a.items b.items ic jc _ (HI.out.below ?_) (HJ.out.below ?_) A2.out) ?_; (focus ((repeat (first | exact Below.refl _ _ | (refine Below.drew ?_) | (refine Go.below_drewN ?_ _) | (refine Below.alloc ?_ (by first | (simp; done) | omega | (simp; omega)) _) | (refine Below.setCell ?_ (by first | (simp; done) | omega | (simp; omega)) _) | (refine Below.trans ?_ (Below.mono (by assumption) (by first | (simp; done) | omega | (simp; omega)))))); done)); (focus ((repeat (first | exact Below.refl _ _ | (refine Below.drew ?_) | (refine Go.below_drewN ?_ _) | (refine Below.alloc ?_ (by first | (simp; done) | omega | (simp; omega)) _) | (refine Below.setCell ?_ (by first | (simp; done) | omega | (simp; omega)) _) | (refine Below.trans ?_ (Below.mono (by assumption) (by first | (simp; done) | omega | (simp; omega)))))); done)); rintro e w2 ⟨rfl, hb2⟩; rw [HD2.out]))
              go_ret
              exact ⟨true, rfl, ⟨fun _ => EQ.out, fun _ => rfl⟩, (by ((repeat (first | exact Below.refl _ _ | (refine Below.drew ?_) | (refine Go.below_drewN ?_ _) | (refine Below.alloc ?_ (by first | (simp; done) | omega | (simp; omega)) _) | (refine Below.setCell ?_ (by first | (simp; done) | omega | (simp; omega)) _) | (refine Below.trans ?_ (Below.mono (by assumption) (by first | (simp; done) | omega | (simp; omega)))))); done))⟩
            · have HD2 := Lib.hid (decide_eq_false hit)
              have NE := Lib.hid (fun h => hit (by rw [h]) : ¬ a = b)
              clear hit
              go_enter Tryd.func25, Tryd.ntmps25
              go_wp2_with (first | (go_at_call 50; refine Calls.mono (eqp_is PA PB a.pairs b.pairs pc qc _ (HP.out.below ?_) (HQ.out.below ?_) A1.out) ?_; (focus ((repeat (first | exact Below.refl _ _ | (refine Below.drew ?_) | (refine Go.below_drewN ?_ _) | (refine Below.alloc ?_ (by first | (simp; done) | omega | (simp; omega)) _) | (refine Below.setCell ?_ (by first | (simp; done) | omega | (simp; omega)) _) | (refine Below.trans ?_ (Below.mono (by assumption) (by first | (simp; done) | omega | (simp; omega)))))); done)); (focus ((repeat (first | exact Below.refl _ _ | (refine Below.drew ?_) | (refine Go.below_drewN ?_ _) | (refine Below.alloc ?_ (by first | (simp; done) | omega | (simp; omega)) _) | (refine Below.setCell ?_ (by first | (simp; done) | omega | (simp; omega)) _) | (refine Below.trans ?_ (Below.mono (by assumption) (by first | (simp; done) | omega | (simp; omega)))))); done)); rintro e w1 ⟨rfl, hb1⟩; rw [HD.out]; have q1 : w1.cell? ⟨w.heap.size, 3, none⟩ = some (.slice IA a.items.length ic) := (by rw [hb1.cell (by simp; omega)]; simp [go_sem]); have q2 : w1.cell? ⟨w.heap.size + 1, 3, none⟩ = some (.slice IB b.items.length jc) := (by rw [hb1.cell (by simp)]; simp [go_sem]); have hz1 : w.heap.size + 1 < w1.heap.size := (by have := hb1.size; simp at this; omega)) | (go_at_call 51; refine Calls.mono (eqs_is IA IB a.items b.items ic jc _ (HI.out.below ?_) (HJ.out.below ?_) A2.out) ?_; (focus ((repeat (first | exact Below.refl _ _ | (refine Below.drew ?_) | (refine Go.below_drewN ?_ _) | (refine Below.alloc ?_ (by first | (simp; done) | omega | (simp; omega)) _) | (refine Below.setCell ?_ (by first | (simp; done) | omega | (simp; omega)) _) | (refine Below.trans ?_ (Below.mono (by assumption) (by first | (simp; done) | omega | (simp; omega)))))); done)); (focus ((repeat (first | exact Below.refl _ _ | (refine Below.drew ?_) | (refine Go.below_drewN ?_ _) | (refine Below.alloc ?_ (by first | (simp; done) | omega | (simp; omega)) _) | (refine Below.setCell ?_ (by first | (simp; done) | omega | (simp; omega)) _) | (refine Below.trans ?_ (Below.mono (by assumption) (by first | (simp; done) | omega | (simp; omega)))))); done)); rintro e w2 ⟨rfl, hb2⟩; rw [HD2.out]))
              go_ret
              exact ⟨false, rfl, no_iff NE.out, (by ((repeat (first | exact Below.refl _ _ | (refine Below.drew ?_) | (refine Go.below_drewN ?_ _) | (refine Below.alloc ?_ (by first | (simp; done) | omega | (simp; omega)) _) | (refine Below.setCell ?_ (by first | (simp; done) | omega | (simp; omega)) _) | (refine Below.trans ?_ (Below.mono (by assumption) (by first | (simp; done) | omega | (simp; omega)))))); done))⟩
          · have HD := Lib.hid (decide_eq_false hp)
            have NE := Lib.hid (fun h => hp (by rw [h]) : ¬ a = b)
            clear hp
            go_enter Tryd.func25, Tryd.ntmps25
            go_wp2_with (first | (go_at_call 50; refine Calls.mono (eqp_is PA PB a.pairs b.pairs pc qc _ (HP.out.below ?_) (HQ.out.below ?_) A1.out) ?_; (focus ((repeat (first | exact Below.refl _ _ | (refine Below.drew ?_) | (refine Go.below_drewN ?_ _) | (refine Below.alloc ?_ (by first | (simp; done) | omega | (simp; omega)) _) | (refine Below.setCell ?_ (by first | (simp; done) | omega | (simp; omega)) _) | (refine Below.trans ?_ (Below.mono (by assumption) (by first | (simp; done) | omega | (simp; omega)))))); done)); (focus ((repeat (first | exact Below.refl _ _ | (refine Below.drew ?_) | (refine Go.below_drewN ?_ _) | (refine Below.alloc ?_ (by first | (simp; done) | omega | (simp; omega)) _) | (refine Below.setCell ?_ (by first | (simp; done) | omega | (simp; omega)) _) | (refine Below.trans ?_ (Below.mono (by assumption) (by first | (simp; done) | omega | (simp; omega)))))); done)); rintro e w1 ⟨rfl, hb1⟩; rw [HD.out]; have q1 : w1.cell? ⟨w.heap.size, 3, none⟩ = some (.slice IA a.items.length ic) := (by rw [hb1.cell (by simp; omega)]; simp [go_sem]); have q2 : w1.cell? ⟨w.heap.size + 1, 3, none⟩ = some (.slice IB b.items.length jc) := (by rw [hb1.cell (by simp)]; simp [go_sem]); have hz1 : w.heap.size + 1 < w1.heap.size := (by have := hb1.size; simp at this; omega)) | (go_at_call 51; refine Calls.mono (eqs_is IA IB a.items b.items ic jc _ (HI.out.below ?_) (HJ.out.below ?_) A2.out) ?_; (focus ((repeat (first | exact Below.refl _ _ | (refine Below.drew ?_) | (refine Go.below_drewN ?_ _) | (refine Below.alloc ?_ (by first | (simp; done) | omega | (simp; omega)) _) | (refine Below.setCell ?_ (by first | (simp; done) | omega | (simp; omega)) _) | (refine Below.trans ?_ (Below.mono (by assumption) (by first | (simp; done) | omega | (simp; omega)))))); done)); (focus ((repeat (first | exact Below.refl _ _ | (refine Below.drew ?_) | (refine Go.below_drewN ?_ _) | (refine Below.alloc ?_ (by first | (simp; done) | omega | (simp; omega)) _) | (refine Below.setCell ?_ (by first | (simp; done) | omega | (simp; omega)) _) | (refine Below.trans ?_ (Below.mono (by assumption) (by first | (simp; done) | omega | (simp; omega)))))); done)); rintro e w2 ⟨rfl, hb2⟩; rw [HD2.out]))
            go_ret
            exact ⟨false, rfl, no_iff NE.out, (by ((repeat (first | exact Below.refl _ _ | (refine Below.drew ?_) | (refine Go.below_drewN ?_ _) | (refine Below.alloc ?_ (by first | (simp; done) | omega | (simp; omega)) _) | (refine Below.setCell ?_ (by first | (simp; done) | omega | (simp; omega)) _) | (refine Below.trans ?_ (Below.mono (by assumption) (by first | (simp; done) | omega | (simp; omega)))))); done))⟩
        · have m4 : (a.im == b.im) = false := by simp [hi]
          have NE := Lib.hid (fun h => hi (by rw [h]) : ¬ a = b)
          clear hi
          go_enter Tryd.func25, Tryd.ntmps25
          go_wp2
          go_ret
          exact ⟨false, rfl, no_iff NE.out, (by ((repeat (first | exact Below.refl _ _ | (refine Below.drew ?_) | (refine Go.below_drewN ?_ _) | (refine Below.alloc ?_ (by first | (simp; done) | omega | (simp; omega)) _) | (refine Below.setCell ?_ (by first | (simp; done) | omega | (simp; omega)) _) | (refine Below.trans ?_ (Below.mono (by assumption) (by first | (simp; done) | omega | (simp; omega)))))); done))⟩
      · have m3 : (a.re == b.re) = false := by simp [hr]
        have NE := Lib.hid (fun h => hr (by rw [h]) : ¬ a = b)
        clear hr
        go_enter Tryd.func25, Tryd.ntmps25
        go_wp2
        go_ret
        exact ⟨false, rfl, no_iff NE.out, (by ((repeat (first | exact Below.refl _ _ | (refine Below.drew ?_) | (refine Go.below_drewN ?_ _) | (refine Below.alloc ?_ (by first | (simp; done) | omega | (simp; omega)) _) | (refine Below.setCell ?_ (by first | (simp; done) | omega | (simp; omega)) _) | (refine Below.trans ?_ (Below.mono (by assumption) (by first | (simp; done) | omega | (simp; omega)))))); done))⟩
    · have m2 : (a.text.toList == b.text.toList) = false := by simp; exact fun h => ht (ba_inj h)
      have NE := Lib.hid (fun h => ht (by rw [h]) : ¬ a = b)
      clear ht
      go_enter Tryd.func25, Tryd.ntmps25
      go_wp2
      go_ret
      exact ⟨false, rfl, no_iff NE.out, (by ((repeat (first | exact Below.refl _ _ | (refine Below.drew ?_) | (refine Go.below_drewN ?_ _) | (refine Below.alloc ?_ (by first | (simp; done) | omega | (simp; omega)) _) | (refine Below.setCell ?_ (by first | (simp; done) | omega | (simp; omega)) _) | (refine Below.trans ?_ (Below.mono (by assumption) (by first | (simp; done) | omega | (simp; omega)))))); done))⟩
  · have m1 : (a.kind == b.kind) = false := by simp [hk]
    have NE := Lib.hid (fun h => hk (by rw [h]) : ¬ a = b)
    clear hk
    go_enter Tryd.func25, Tryd.ntmps25
    go_wp2
    go_ret
    exact ⟨false, rfl, no_iff NE.out, (by ((repeat (first | exact Below.refl _ _ | (refine Below.drew ?_) | (refine Go.below_drewN ?_ _) | (refine Below.alloc ?_ (by first | (simp; done) | omega | (simp; omega)) _) | (refine Below.setCell ?_ (by first | (simp; done) | omega | (simp; omega)) _) | (refine Below.trans ?_ (Below.mono (by assumption) (by first | (simp; done) | omega | (simp; omega)))))); done))⟩
end Go.Proofs.YtdpgkihecpjijaaDoor.T
