import Derived.Deep.DeepCutAuto
import Derived.Laws.OwnMore
import Derived.OwnWalk
import Derived.Lib.AppendStr
import Derived.Lib.SliceRun
import Derived.Lib.SmallJoins
import Derived.IntWalk
import Derived.Lib.ItoaLen
import Derived.WalkMore
import Derived.Lib.AtoiAllCases
import Derived.Lib.OthersKept
import Derived.Laws.Runes
import Derived.Deep.LoopGhost
import Derived.Deep.RegionLaw
import Derived.Deep.AppendLies
import Derived.Test.YteghfinngilfgaaDoorProg
import Derived.Test.YteghfinngilfgaaDoorMem
import Derived.Test.YteghfinngilfgaaDoorZf
import Derived.WalkKit
import Derived.Outline
import Derived.WalkLawsBesides
import Derived.Deep.QuietTactic
import Derived.BigQuiet
import Derived.Lib.Hide
import Derived.Handy
import Derived.Deep.RegionHeld3
import Derived.Deep.DrawnRows
import Derived.KernelRfl
import Derived.Great.Walk
import Derived.Test.YteghfinngilfgaaDoorOwn
namespace Go.Proofs.YteghfinngilfgaaDoor.T
open Go Go.RowKit Go.Sort Mem Own
set_option maxRecDepth 100000
set_option maxHeartbeats 1000000
set_option linter.unusedVariables false
set_option linter.unusedSimpArgs false

/-- What a law leaves. -/
abbrev Yes (w : World) (e : Ending) (w' : World) : Prop := e = .returned (.bool true) ∧ Below w.heap.size w w'
theorem small0 (x : T) (A : Option Addr) (c : Nat) (w : World) (hr : RdT w A x) : Calls Tryd.prog 10 #[tV x.k x.z x.t A x.l.length c, .int .i64 0] w fun e w' => e = .returned (.bool (smallB 0 x)) ∧ Below w.heap.size w w' := small_is x.sz x 0 A c w (Nat.le_refl _) hr (by decide) (by decide)
set_option maxHeartbeats 2000000 in
/-- ReplySame -/
theorem same_law (x y : T) (A B : Option Addr) (c d : Nat) (w : World) (hr : RdT w A x) (hr' : RdT w B y) (hf : Fit x) (hT : Tab w) :
    Calls Tryd.prog 7 #[tV x.k x.z x.t A x.l.length c, tV y.k y.z y.t B y.l.length d] w (Yes w) := by
  have HT := Lib.hid hT
  have HS1 := Lib.hid (fun (wx : World) (hb : Below w.heap.size w wx) => small0 x A c wx (hr.below hb))
  have HS2 := Lib.hid (fun (wx : World) (hb : Below w.heap.size w wx) => small0 y B d wx (hr'.below hb))
  have HP := Lib.hid (fun (wx : World) (hb : Below w.heap.size w wx) => psame_is (x := x) (y := y) (c := c) (d := d) (hr.below hb) (hr'.below hb) hf)
  have HQ := Lib.hid (fun (wx : World) (hb : Below w.heap.size w wx) => rsame_all x.sz x y A B c d wx (Nat.le_refl _) (hr.below hb) (hr'.below hb) hf)
  have HO := Lib.hid (fun (wx : World) (hb : Below w.heap.size w wx) => (show Calls Tryd.prog 15 #[tV x.k x.z x.t A x.l.length c, tV x.k x.z x.t A x.l.length c] wx (Yes wx) by
    have := psame_is (x := x) (y := x) (c := c) (d := c) (hr.below hb) (hr.below hb) hf
    rw [sameB_refl] at this
    exact this))
  have HA := Lib.hid (fun (wx : World) (hb : Below w.heap.size w wx) => alive_is wx (hT.keep hb))
  have HN := Lib.hid (new2 w #[.int .i64 x.k, .int .i64 x.z, .string x.t, .slice A x.l.length c] #[.int .i64 y.k, .int .i64 y.z, .string y.t, .slice B y.l.length d] 24 24)
  generalize smallB 0 x = sx at HS1
  generalize smallB 0 y = sy at HS2
  generalize sameB x y = sb at HP HQ
  clear hr hr' hf hT
  generalize x.k = xk at *
  generalize x.z = xz at *
  generalize x.t = xt at *
  generalize x.l.length = xl at *
  generalize y.k = yk at *
  generalize y.z = yz at *
  generalize y.t = yt at *
  generalize y.l.length = yl at *
  go_enter Tryd.func7, Tryd.ntmps7
  go_upto_region 1 with fail
  obtain ⟨w0, hw0⟩ : ∃ w0, w0 = (w.alloc (.cells #[.int .i64 xk, .int .i64 xz, .string xt, .slice A xl c] 24)).alloc (.cells #[.int .i64 yk, .int .i64 yz, .string yt, .slice B yl d] 24) := ⟨_, rfl⟩
  have HZ := Lib.hid (show w0.heap.size = w.heap.size + 2 by rw [hw0, alloc_sz, alloc_sz])
  rw [← hw0] at HN ⊢
  clear hw0
  have HB0 := Lib.hid HN.out.2.2
  have hz0 := HZ.out
  obtain ⟨x0, x1, x2, x3⟩ := cells4 HN.out.1
  obtain ⟨y0, y1, y2, y3⟩ := cells4 HN.out.2.1
  cases sx with
  | false =>
    go_wp2_with (first
      | (go_at_call 10; refine Calls.mono (HS1.out _ HB0.out) ?_; (rintro e w1 ⟨rfl, hb1⟩; have HB1 := Lib.hid (HB0.out.trans (hb1.mono HB0.out.size)); clear hb1))
      | (go_at_call 11; refine Calls.mono (HA.out _ HB1.out) ?_; (rintro e w2 ⟨rfl, hb2⟩; have HB2 := Lib.hid (HB1.out.trans (hb2.mono HB1.out.size)); clear hb2)))
    go_ret
    exact ⟨rfl, HB2.out⟩
  | true =>
    cases sy with
    | false =>
      go_wp2_with (first
        | ((fail_if_success (have := HX1)); go_at_call 10; refine Calls.mono (HS1.out _ HB0.out) ?_; (rintro e w1 ⟨rfl, hb1⟩; have HB1 := Lib.hid (HB0.out.trans (hb1.mono HB0.out.size)); have HX1 := Lib.hid (keep_blk hb1 HN.out.1); have HY1 := Lib.hid (keep_blk hb1 HN.out.2.1); clear hb1 x0 x1 x2 x3 y0 y1 y2 y3; obtain ⟨x0, x1, x2, x3⟩ := cells4 HX1.out; obtain ⟨y0, y1, y2, y3⟩ := cells4 HY1.out))
        | (go_at_call 10; refine Calls.mono (HS2.out _ HB1.out) ?_; (rintro e w2 ⟨rfl, hb2⟩; have HB2 := Lib.hid (HB1.out.trans (hb2.mono HB1.out.size)); clear hb2 x0 x1 x2 x3 y0 y1 y2 y3))
        | (go_at_call 11; refine Calls.mono (HA.out _ HB2.out) ?_; (rintro e w3 ⟨rfl, hb3⟩; have HB3 := Lib.hid (HB2.out.trans (hb3.mono HB2.out.size)); clear hb3)))
      go_ret
      exact ⟨rfl, HB3.out⟩
    | true =>
      go_wp2_with (first
        | ((fail_if_success (have := HX1)); go_at_call 10; refine Calls.mono (HS1.out _ HB0.out) ?_; (rintro e w1 ⟨rfl, hb1⟩; have HB1 := Lib.hid (HB0.out.trans (hb1.mono HB0.out.size)); have HX1 := Lib.hid (keep_blk hb1 HN.out.1); have HY1 := Lib.hid (keep_blk hb1 HN.out.2.1); clear hb1 x0 x1 x2 x3 y0 y1 y2 y3; obtain ⟨x0, x1, x2, x3⟩ := cells4 HX1.out; obtain ⟨y0, y1, y2, y3⟩ := cells4 HY1.out))
        | (go_at_call 10; refine Calls.mono (HS2.out _ HB1.out) ?_; (rintro e w2 ⟨rfl, hb2⟩; have HB2 := Lib.hid (HB1.out.trans (hb2.mono HB1.out.size)); have HX2 := Lib.hid (keep_blk hb2 HX1.out); have HY2 := Lib.hid (keep_blk hb2 HY1.out); clear hb2 x0 x1 x2 x3 y0 y1 y2 y3; obtain ⟨x0, x1, x2, x3⟩ := cells4 HX2.out; obtain ⟨y0, y1, y2, y3⟩ := cells4 HY2.out)))
      have hb2 := HB2.out
      have hz2 := hb2.size
      go_region_law
        (first
          | ((fail_if_success (have := hbA)); go_simp; go_at_call 11; refine Calls.mono (HA.out _ ?_) ?_; (focus ((repeat (first | exact Below.refl _ _ | (refine Below.drew ?_) | (refine Go.below_drewN ?_ _) | (refine Below.alloc ?_ (by first | (simp; done) | omega | (simp; omega)) _) | (refine Below.setCell ?_ (by first | (simp; done) | omega | (simp; omega)) _) | (refine Below.trans ?_ (Below.mono (by assumption) (by first | (simp; done) | omega | (simp; omega)))))); done)); (rintro e w3 ⟨rfl, hb3⟩; have hbA : RowKit.Below w.heap.size w w3 := (by ((repeat (first | exact Below.refl _ _ | (refine Below.drew ?_) | (refine Go.below_drewN ?_ _) | (refine Below.alloc ?_ (by first | (simp; done) | omega | (simp; omega)) _) | (refine Below.setCell ?_ (by first | (simp; done) | omega | (simp; omega)) _) | (refine Below.trans ?_ (Below.mono (by assumption) (by first | (simp; done) | omega | (simp; omega)))))); done)); have hzA := hbA.size; have HXA := Lib.hid (keep_blk hb3 HX2.out); have HYA := Lib.hid (keep_blk hb3 HY2.out); clear hb3 x0 x1 x2 x3 y0 y1 y2 y3; obtain ⟨x0, x1, x2, x3⟩ := cells4 HXA.out; obtain ⟨y0, y1, y2, y3⟩ := cells4 HYA.out; (try go_simp)))
          | ((fail_if_success (have := hbB)); go_simp; go_at_call 15; refine Calls.mono (HP.out _ ?_) ?_; (focus ((repeat (first | exact Below.refl _ _ | (refine Below.drew ?_) | (refine Go.below_drewN ?_ _) | (refine Below.alloc ?_ (by first | (simp; done) | omega | (simp; omega)) _) | (refine Below.setCell ?_ (by first | (simp; done) | omega | (simp; omega)) _) | (refine Below.trans ?_ (Below.mono (by assumption) (by first | (simp; done) | omega | (simp; omega)))))); done)); (rintro e w4 ⟨rfl, hb4⟩; have hbB : RowKit.Below w.heap.size w w4 := (by ((repeat (first | exact Below.refl _ _ | (refine Below.drew ?_) | (refine Go.below_drewN ?_ _) | (refine Below.alloc ?_ (by first | (simp; done) | omega | (simp; omega)) _) | (refine Below.setCell ?_ (by first | (simp; done) | omega | (simp; omega)) _) | (refine Below.trans ?_ (Below.mono (by assumption) (by first | (simp; done) | omega | (simp; omega)))))); done)); have hzB := hbB.size; have HXB := Lib.hid (keep_blk hb4 (by first | exact HXC.out | exact HXA.out)); have HYB := Lib.hid (keep_blk hb4 (by first | exact HYC.out | exact HYA.out)); clear hb4; obtain ⟨x0, x1, x2, x3⟩ := cells4 HXB.out; obtain ⟨y0, y1, y2, y3⟩ := cells4 HYB.out; (try go_simp)))
          | ((fail_if_success (have := hbC)); go_simp; go_at_call 16; refine Calls.mono (HQ.out _ ?_) ?_; (focus ((repeat (first | exact Below.refl _ _ | (refine Below.drew ?_) | (refine Go.below_drewN ?_ _) | (refine Below.alloc ?_ (by first | (simp; done) | omega | (simp; omega)) _) | (refine Below.setCell ?_ (by first | (simp; done) | omega | (simp; omega)) _) | (refine Below.trans ?_ (Below.mono (by assumption) (by first | (simp; done) | omega | (simp; omega)))))); done)); (rintro e w5 ⟨rfl, hb5⟩; have hbC : RowKit.Below w.heap.size w w5 := (by ((repeat (first | exact Below.refl _ _ | (refine Below.drew ?_) | (refine Go.below_drewN ?_ _) | (refine Below.alloc ?_ (by first | (simp; done) | omega | (simp; omega)) _) | (refine Below.setCell ?_ (by first | (simp; done) | omega | (simp; omega)) _) | (refine Below.trans ?_ (Below.mono (by assumption) (by first | (simp; done) | omega | (simp; omega)))))); done)); have hzC := hbC.size; have HXC := Lib.hid (keep_blk hb5 (by first | exact HXB.out | exact HXA.out)); have HYC := Lib.hid (keep_blk hb5 (by first | exact HYB.out | exact HYA.out)); clear hb5; obtain ⟨x0, x1, x2, x3⟩ := cells4 HXC.out; obtain ⟨y0, y1, y2, y3⟩ := cells4 HYC.out; (try go_simp)))
          | ((have := hbB); (have := hbC); go_simp; go_at_call 15; refine Calls.mono (HO.out _ ?_) ?_; (focus ((repeat (first | exact Below.refl _ _ | (refine Below.drew ?_) | (refine Go.below_drewN ?_ _) | (refine Below.alloc ?_ (by first | (simp; done) | omega | (simp; omega)) _) | (refine Below.setCell ?_ (by first | (simp; done) | omega | (simp; omega)) _) | (refine Below.trans ?_ (Below.mono (by assumption) (by first | (simp; done) | omega | (simp; omega)))))); done)); (rintro e w6 ⟨rfl, hb6⟩; have hbD : RowKit.Below w.heap.size w w6 := (by ((repeat (first | exact Below.refl _ _ | (refine Below.drew ?_) | (refine Go.below_drewN ?_ _) | (refine Below.alloc ?_ (by first | (simp; done) | omega | (simp; omega)) _) | (refine Below.setCell ?_ (by first | (simp; done) | omega | (simp; omega)) _) | (refine Below.trans ?_ (Below.mono (by assumption) (by first | (simp; done) | omega | (simp; omega)))))); done)); (try go_simp))))
      all_goals
        go_wp2_with fail
        go_ret
        exact ⟨rfl, by first | assumption | ((repeat (first | exact Below.refl _ _ | (refine Below.drew ?_) | (refine Go.below_drewN ?_ _) | (refine Below.alloc ?_ (by first | (simp; done) | omega | (simp; omega)) _) | (refine Below.setCell ?_ (by first | (simp; done) | omega | (simp; omega)) _) | (refine Below.trans ?_ (Below.mono (by assumption) (by first | (simp; done) | omega | (simp; omega)))))); done)⟩
end Go.Proofs.YteghfinngilfgaaDoor.T
