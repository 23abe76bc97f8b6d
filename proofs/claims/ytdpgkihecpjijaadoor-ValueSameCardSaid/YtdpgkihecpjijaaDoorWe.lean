import Derived.Deep.DeepCutAuto
import Derived.Laws.OwnMore
import Derived.OwnWalk
import Derived.Lib.AppendStr
import Derived.Laws.IdiomStrings
import Derived.Lib.ConvBytes
import Derived.Lib.SmallJoins
import Derived.IntWalk
import Derived.Deep.AppendLies
import Derived.Deep.RegionLaw
import Derived.Test.YtdpgkihecpjijaaDoorProg
import Derived.Test.YtdpgkihecpjijaaDoorMem
import Derived.Test.YtdpgkihecpjijaaDoorVw
import Derived.Test.YtdpgkihecpjijaaDoorVx
import Derived.Test.YtdpgkihecpjijaaDoorVy
import Derived.Test.YtdpgkihecpjijaaDoorWc
import Derived.WalkKit
import Derived.Outline
import Derived.WalkLawsBesides
import Derived.Deep.QuietTactic
import Derived.BigQuiet
import Derived.Lib.Hide
import Derived.Handy
import Derived.Deep.RegionHeld3
import Derived.Deep.DrawnRows
import Derived.KernelRfl
import Derived.Sort.Walk0
import Derived.Great.Walk
import Derived.Test.YtdpgkihecpjijaaDoorOwn
namespace Go.Proofs.YtdpgkihecpjijaaDoor.T
open Go Go.RowKit Mem Own
set_option maxRecDepth 100000
set_option maxHeartbeats 1000000
set_option linter.unusedVariables false
set_option linter.unusedSimpArgs false

theorem box2 {w : World} {o o2 : Obj} : ((w.alloc o).alloc o2).heap[w.heap.size + 1]? = some o2 := by
  have := heap_alloc_new (w.alloc o) o2
  rw [alloc_size] at this
  exact this
theorem dump_inj {a b : Vl} (ha : RightV a) (hb : RightV b) (h : B (dumpB a) = B (dumpB b)) : a = b := by
  have h1 := load_dump a ha
  rw [h, load_dump b hb] at h1
  exact (Prod.mk.inj h1).1.symm
/-- ValueUnlike -/
theorem unlike_is (v u : Value) (a b : Vl) (w : World) (hv : VRd w v a) (hu : VRd w u b) (hh : Hv w) : Calls Tryd.prog 8 #[v, u] w fun e w' => e = .returned (.bool true) ∧ Below w.heap.size w w' := by
  have HV := Lib.hid hv; have HU := Lib.hid hu; have HH := Lib.hid hh
  obtain ⟨⟨PA, pc, IA, ic, rfl, -, -⟩, -⟩ := hv
  obtain ⟨⟨PB, qc, IB, jc, rfl, -, -⟩, -⟩ := hu
  obtain ⟨k, t, ps, is, re, im⟩ := a
  obtain ⟨k2, t2, qs, js, re2, im2⟩ := b
  dsimp only at HV HU ⊢
  clear hh
  have hu := Tryd.underlying25
  by_cases hr : RightV ⟨k, t, ps, is, re, im⟩
  · obtain ⟨s1, hs1⟩ : ∃ s, s = B (dumpB ⟨k, t, ps, is, re, im⟩) := ⟨_, rfl⟩
    have HS1 := Lib.hid hs1
    by_cases hr2 : RightV ⟨k2, t2, qs, js, re2, im2⟩
    · obtain ⟨s2, hs2⟩ : ∃ s, s = B (dumpB ⟨k2, t2, qs, js, re2, im2⟩) := ⟨_, rfl⟩
      have HS2 := Lib.hid hs2
      by_cases he : (⟨k, t, ps, is, re, im⟩ : Vl) = ⟨k2, t2, qs, js, re2, im2⟩
      · have hc : (s1.toList == s2.toList) = true := by rw [hs1, hs2, he]; simp
        have HR := Lib.hid hr; have HR2 := Lib.hid hr2; have HE := Lib.hid he
        clear hr hr2 hs1 hs2 he
        go_enter Tryd.func8, Tryd.ntmps8
        go_wp2_with (first
          | (go_at_call 13; refine Calls.mono (dump_is _ _ _ (HV.out.below ?_) HR.out (HH.out.below ?_)) ?_; (focus ((repeat (first | exact Below.refl _ _ | (refine Below.drew ?_) | (refine Go.below_drewN ?_ _) | (refine Below.alloc ?_ (by first | (simp; done) | omega | (simp; omega)) _) | (refine Below.setCell ?_ (by first | (simp; done) | omega | (simp; omega)) _) | (refine Below.trans ?_ (Below.mono (by assumption) (by first | (simp; done) | omega | (simp; omega)))))); done)); (focus ((repeat (first | exact Below.refl _ _ | (refine Below.drew ?_) | (refine Go.below_drewN ?_ _) | (refine Below.alloc ?_ (by first | (simp; done) | omega | (simp; omega)) _) | (refine Below.setCell ?_ (by first | (simp; done) | omega | (simp; omega)) _) | (refine Below.trans ?_ (Below.mono (by assumption) (by first | (simp; done) | omega | (simp; omega)))))); done)); rintro e w1 ⟨rfl, hb1⟩; have hz1 := hb1.size; simp at hz1; have HX1 := Lib.hid (keep_block hb1 (show ((w.alloc (vO k t PA ps.length pc IA is.length ic re im)).alloc (vO k2 t2 PB qs.length qc IB js.length jc re2 im2)).heap[w.heap.size]? = _ from keep_block ((Below.refl _ _).alloc (Nat.le_refl _) _) (heap_alloc_new _ _))); obtain ⟨d0, d1, d2, d3, d4, d5⟩ := facts6 HX1.out; have HY1 := Lib.hid (keep_block hb1 (box2 (w := w) (o := vO k t PA ps.length pc IA is.length ic re im) (o2 := vO k2 t2 PB qs.length qc IB js.length jc re2 im2))); obtain ⟨e0, e1, e2, e3, e4, e5⟩ := facts6 HY1.out; rw [show (⟨(dumpB ⟨k, t, ps, is, re, im⟩).toArray⟩ : ByteArray) = s1 from HS1.out.symm])
          | (go_at_call 13; refine Calls.mono (dump_is _ _ _ (HU.out.below ?_) HR2.out (HH.out.below ?_)) ?_; (focus ((repeat (first | exact Below.refl _ _ | (refine Below.drew ?_) | (refine Go.below_drewN ?_ _) | (refine Below.alloc ?_ (by first | (simp; done) | omega | (simp; omega)) _) | (refine Below.setCell ?_ (by first | (simp; done) | omega | (simp; omega)) _) | (refine Below.trans ?_ (Below.mono (by assumption) (by first | (simp; done) | omega | (simp; omega)))))); done)); (focus ((repeat (first | exact Below.refl _ _ | (refine Below.drew ?_) | (refine Go.below_drewN ?_ _) | (refine Below.alloc ?_ (by first | (simp; done) | omega | (simp; omega)) _) | (refine Below.setCell ?_ (by first | (simp; done) | omega | (simp; omega)) _) | (refine Below.trans ?_ (Below.mono (by assumption) (by first | (simp; done) | omega | (simp; omega)))))); done)); rintro e w2 ⟨rfl, hb2⟩; have hz2 := hb2.size; have HX2 := Lib.hid (keep_block hb2 HX1.out); obtain ⟨d0, d1, d2, d3, d4, d5⟩ := facts6 HX2.out; have HY2 := Lib.hid (keep_block hb2 HY1.out); obtain ⟨e0, e1, e2, e3, e4, e5⟩ := facts6 HY2.out; (try rw [show (⟨(dumpB ⟨k2, t2, qs, js, re2, im2⟩).toArray⟩ : ByteArray) = s2 from HS2.out.symm]))
          | (go_at_call 12; refine Calls.mono (alive_is _ (HH.out.below ?_)) ?_; (focus ((repeat (first | exact Below.refl _ _ | (refine Below.drew ?_) | (refine Go.below_drewN ?_ _) | (refine Below.alloc ?_ (by first | (simp; done) | omega | (simp; omega)) _) | (refine Below.setCell ?_ (by first | (simp; done) | omega | (simp; omega)) _) | (refine Below.trans ?_ (Below.mono (by assumption) (by first | (simp; done) | omega | (simp; omega)))))); done)); rintro e w4 ⟨rfl, hb4⟩; have hz4 := hb4.size; have HX4 := Lib.hid (keep_block hb4 HX2.out); obtain ⟨d0, d1, d2, d3, d4, d5⟩ := facts6 HX4.out; have HY4 := Lib.hid (keep_block hb4 HY2.out); obtain ⟨e0, e1, e2, e3, e4, e5⟩ := facts6 HY4.out)
          | (go_at_call 17; refine Calls.mono (rsame_yes _ _ _ _ _ (HV.out.below ?_) (HU.out.below ?_) HE.out) ?_; (focus ((repeat (first | exact Below.refl _ _ | (refine Below.drew ?_) | (refine Go.below_drewN ?_ _) | (refine Below.alloc ?_ (by first | (simp; done) | omega | (simp; omega)) _) | (refine Below.setCell ?_ (by first | (simp; done) | omega | (simp; omega)) _) | (refine Below.trans ?_ (Below.mono (by assumption) (by first | (simp; done) | omega | (simp; omega)))))); done)); (focus ((repeat (first | exact Below.refl _ _ | (refine Below.drew ?_) | (refine Go.below_drewN ?_ _) | (refine Below.alloc ?_ (by first | (simp; done) | omega | (simp; omega)) _) | (refine Below.setCell ?_ (by first | (simp; done) | omega | (simp; omega)) _) | (refine Below.trans ?_ (Below.mono (by assumption) (by first | (simp; done) | omega | (simp; omega)))))); done)); rintro e w5 ⟨rfl, hb5⟩))
        go_ret
        exact ⟨rfl, (by ((repeat (first | exact Below.refl _ _ | (refine Below.drew ?_) | (refine Go.below_drewN ?_ _) | (refine Below.alloc ?_ (by first | (simp; done) | omega | (simp; omega)) _) | (refine Below.setCell ?_ (by first | (simp; done) | omega | (simp; omega)) _) | (refine Below.trans ?_ (Below.mono (by assumption) (by first | (simp; done) | omega | (simp; omega)))))); done))⟩
      · have hc : (s1.toList == s2.toList) = false := by
          rw [beq_eq_false_iff_ne]
          intro e
          exact he (dump_inj hr hr2 (by rw [← hs1, ← hs2]; exact ba_inj e))
        have HR := Lib.hid hr; have HR2 := Lib.hid hr2; have HE := Lib.hid he
        clear hr hr2 hs1 hs2 he
        go_enter Tryd.func8, Tryd.ntmps8
        go_wp2_with (first
          | (go_at_call 13; refine Calls.mono (dump_is _ _ _ (HV.out.below ?_) HR.out (HH.out.below ?_)) ?_; (focus ((repeat (first | exact Below.refl _ _ | (refine Below.drew ?_) | (refine Go.below_drewN ?_ _) | (refine Below.alloc ?_ (by first | (simp; done) | omega | (simp; omega)) _) | (refine Below.setCell ?_ (by first | (simp; done) | omega | (simp; omega)) _) | (refine Below.trans ?_ (Below.mono (by assumption) (by first | (simp; done) | omega | (simp; omega)))))); done)); (focus ((repeat (first | exact Below.refl _ _ | (refine Below.drew ?_) | (refine Go.below_drewN ?_ _) | (refine Below.alloc ?_ (by first | (simp; done) | omega | (simp; omega)) _) | (refine Below.setCell ?_ (by first | (simp; done) | omega | (simp; omega)) _) | (refine Below.trans ?_ (Below.mono (by assumption) (by first | (simp; done) | omega | (simp; omega)))))); done)); rintro e w1 ⟨rfl, hb1⟩; have hz1 := hb1.size; simp at hz1; have HX1 := Lib.hid (keep_block hb1 (show ((w.alloc (vO k t PA ps.length pc IA is.length ic re im)).alloc (vO k2 t2 PB qs.length qc IB js.length jc re2 im2)).heap[w.heap.size]? = _ from keep_block ((Below.refl _ _).alloc (Nat.le_refl _) _) (heap_alloc_new _ _))); obtain ⟨d0, d1, d2, d3, d4, d5⟩ := facts6 HX1.out; have HY1 := Lib.hid (keep_block hb1 (box2 (w := w) (o := vO k t PA ps.length pc IA is.length ic re im) (o2 := vO k2 t2 PB qs.length qc IB js.length jc re2 im2))); obtain ⟨e0, e1, e2, e3, e4, e5⟩ := facts6 HY1.out; rw [show (⟨(dumpB ⟨k, t, ps, is, re, im⟩).toArray⟩ : ByteArray) = s1 from HS1.out.symm])
          | (go_at_call 13; refine Calls.mono (dump_is _ _ _ (HU.out.below ?_) HR2.out (HH.out.below ?_)) ?_; (focus ((repeat (first | exact Below.refl _ _ | (refine Below.drew ?_) | (refine Go.below_drewN ?_ _) | (refine Below.alloc ?_ (by first | (simp; done) | omega | (simp; omega)) _) | (refine Below.setCell ?_ (by first | (simp; done) | omega | (simp; omega)) _) | (refine Below.trans ?_ (Below.mono (by assumption) (by first | (simp; done) | omega | (simp; omega)))))); done)); (focus ((repeat (first | exact Below.refl _ _ | (refine Below.drew ?_) | (refine Go.below_drewN ?_ _) | (refine Below.alloc ?_ (by first | (simp; done) | omega | (simp; omega)) _) | (refine Below.setCell ?_ (by first | (simp; done) | omega | (simp; omega)) _) | (refine Below.trans ?_ (Below.mono (by assumption) (by first | (simp; done) | omega | (simp; omega)))))); done)); rintro e w2 ⟨rfl, hb2⟩; have hz2 := hb2.size; have HX2 := Lib.hid (keep_block hb2 HX1.out); obtain ⟨d0, d1, d2, d3, d4, d5⟩ := facts6 HX2.out; have HY2 := Lib.hid (keep_block hb2 HY1.out); obtain ⟨e0, e1, e2, e3, e4, e5⟩ := facts6 HY2.out; (try rw [show (⟨(dumpB ⟨k2, t2, qs, js, re2, im2⟩).toArray⟩ : ByteArray) = s2 from HS2.out.symm]))
          | (go_at_call 12; refine Calls.mono (alive_is _ (HH.out.below ?_)) ?_; (focus ((repeat (first | exact Below.refl _ _ | (refine Below.drew ?_) | (refine Go.below_drewN ?_ _) | (refine Below.alloc ?_ (by first | (simp; done) | omega | (simp; omega)) _) | (refine Below.setCell ?_ (by first | (simp; done) | omega | (simp; omega)) _) | (refine Below.trans ?_ (Below.mono (by assumption) (by first | (simp; done) | omega | (simp; omega)))))); done)); rintro e w4 ⟨rfl, hb4⟩; have hz4 := hb4.size; have HX4 := Lib.hid (keep_block hb4 HX2.out); obtain ⟨d0, d1, d2, d3, d4, d5⟩ := facts6 HX4.out; have HY4 := Lib.hid (keep_block hb4 HY2.out); obtain ⟨e0, e1, e2, e3, e4, e5⟩ := facts6 HY4.out)
          | (go_at_call 17; refine Calls.mono (rsame_no _ _ _ _ _ (HV.out.below ?_) (HU.out.below ?_) HE.out) ?_; (focus ((repeat (first | exact Below.refl _ _ | (refine Below.drew ?_) | (refine Go.below_drewN ?_ _) | (refine Below.alloc ?_ (by first | (simp; done) | omega | (simp; omega)) _) | (refine Below.setCell ?_ (by first | (simp; done) | omega | (simp; omega)) _) | (refine Below.trans ?_ (Below.mono (by assumption) (by first | (simp; done) | omega | (simp; omega)))))); done)); (focus ((repeat (first | exact Below.refl _ _ | (refine Below.drew ?_) | (refine Go.below_drewN ?_ _) | (refine Below.alloc ?_ (by first | (simp; done) | omega | (simp; omega)) _) | (refine Below.setCell ?_ (by first | (simp; done) | omega | (simp; omega)) _) | (refine Below.trans ?_ (Below.mono (by assumption) (by first | (simp; done) | omega | (simp; omega)))))); done)); rintro e w5 ⟨rfl, hb5⟩))
        go_ret
        exact ⟨rfl, (by ((repeat (first | exact Below.refl _ _ | (refine Below.drew ?_) | (refine Go.below_drewN ?_ _) | (refine Below.alloc ?_ (by first | (simp; done) | omega | (simp; omega)) _) | (refine Below.setCell ?_ (by first | (simp; done) | omega | (simp; omega)) _) | (refine Below.trans ?_ (Below.mono (by assumption) (by first | (simp; done) | omega | (simp; omega)))))); done))⟩
    · have HR := Lib.hid hr; have HR2 := Lib.hid hr2
      clear hr hr2 hs1
      go_enter Tryd.func8, Tryd.ntmps8
      go_wp2_with (first
          | (go_at_call 13; refine Calls.mono (dump_is _ _ _ (HV.out.below ?_) HR.out (HH.out.below ?_)) ?_; (focus ((repeat (first | exact Below.refl _ _ | (refine Below.drew ?_) | (refine Go.below_drewN ?_ _) | (refine Below.alloc ?_ (by first | (simp; done) | omega | (simp; omega)) _) | (refine Below.setCell ?_ (by first | (simp; done) | omega | (simp; omega)) _) | (refine Below.trans ?_ (Below.mono (by assumption) (by first | (simp; done) | omega | (simp; omega)))))); done)); (focus ((repeat (first | exact Below.refl _ _ | (refine Below.drew ?_) | (refine Go.below_drewN ?_ _) | (refine Below.alloc ?_ (by first | (simp; done) | omega | (simp; omega)) _) | (refine Below.setCell ?_ (by first | (simp; done) | omega | (simp; omega)) _) | (refine Below.trans ?_ (Below.mono (by assumption) (by first | (simp; done) | omega | (simp; omega)))))); done)); rintro e w1 ⟨rfl, hb1⟩; have hz1 := hb1.size; simp at hz1; have HX1 := Lib.hid (keep_block hb1 (show ((w.alloc (vO k t PA ps.length pc IA is.length ic re im)).alloc (vO k2 t2 PB qs.length qc IB js.length jc re2 im2)).heap[w.heap.size]? = _ from keep_block ((Below.refl _ _).alloc (Nat.le_refl _) _) (heap_alloc_new _ _))); obtain ⟨d0, d1, d2, d3, d4, d5⟩ := facts6 HX1.out; have HY1 := Lib.hid (keep_block hb1 (box2 (w := w) (o := vO k t PA ps.length pc IA is.length ic re im) (o2 := vO k2 t2 PB qs.length qc IB js.length jc re2 im2))); obtain ⟨e0, e1, e2, e3, e4, e5⟩ := facts6 HY1.out; rw [show (⟨(dumpB ⟨k, t, ps, is, re, im⟩).toArray⟩ : ByteArray) = s1 from HS1.out.symm])
          | (go_at_call 13; refine Calls.mono (dump_no _ _ _ (HU.out.below ?_) HR2.out) ?_; (focus ((repeat (first | exact Below.refl _ _ | (refine Below.drew ?_) | (refine Go.below_drewN ?_ _) | (refine Below.alloc ?_ (by first | (simp; done) | omega | (simp; omega)) _) | (refine Below.setCell ?_ (by first | (simp; done) | omega | (simp; omega)) _) | (refine Below.trans ?_ (Below.mono (by assumption) (by first | (simp; done) | omega | (simp; omega)))))); done)); rintro e w2 ⟨rfl, hb2⟩; have hz2 := hb2.size; have HX2 := Lib.hid (keep_block hb2 HX1.out); obtain ⟨d0, d1, d2, d3, d4, d5⟩ := facts6 HX2.out; have HY2 := Lib.hid (keep_block hb2 HY1.out); obtain ⟨e0, e1, e2, e3, e4, e5⟩ := facts6 HY2.out)
          | (go_at_call 12; refine Calls.mono (alive_is _ (HH.out.below ?_)) ?_; (focus ((repeat (first | exact Below.refl _ _ | (refine Below.drew ?_) | (refine Go.below_drewN ?_ _) | (refine Below.alloc ?_ (by first | (simp; done) | omega | (simp; omega)) _) | (refine Below.setCell ?_ (by first | (simp; done) | omega | (simp; omega)) _) | (refine Below.trans ?_ (Below.mono (by assumption) (by first | (simp; done) | omega | (simp; omega)))))); done)); rintro e w4 ⟨rfl, hb4⟩; have hz4 := hb4.size; have HX4 := Lib.hid (keep_block hb4 HX2.out); obtain ⟨d0, d1, d2, d3, d4, d5⟩ := facts6 HX4.out; have HY4 := Lib.hid (keep_block hb4 HY2.out); obtain ⟨e0, e1, e2, e3, e4, e5⟩ := facts6 HY4.out))
      go_ret
      exact ⟨rfl, (by ((repeat (first | exact Below.refl _ _ | (refine Below.drew ?_) | (refine Go.below_drewN ?_ _) | (refine Below.alloc ?_ (by first | (simp; done) | omega | (simp; omega)) _) | (refine Below.setCell ?_ (by first | (simp; done) | omega | (simp; omega)) _) | (refine Below.trans ?_ (Below.mono (by assumption) (by first | (simp; done) | omega | (simp; omega)))))); done))⟩
  · have HR := Lib.hid hr
    by_cases hr2 : RightV ⟨k2, t2, qs, js, re2, im2⟩
    · have HR2 := Lib.hid hr2
      clear hr hr2
      go_enter Tryd.func8, Tryd.ntmps8
      go_wp2_with (first
          | (go_at_call 13; refine Calls.mono (dump_no _ _ _ (HV.out.below ?_) HR.out) ?_; (focus ((repeat (first | exact Below.refl _ _ | (refine Below.drew ?_) | (refine Go.below_drewN ?_ _) | (refine Below.alloc ?_ (by first | (simp; done) | omega | (simp; omega)) _) | (refine Below.setCell ?_ (by first | (simp; done) | omega | (simp; omega)) _) | (refine Below.trans ?_ (Below.mono (by assumption) (by first | (simp; done) | omega | (simp; omega)))))); done)); rintro e w1 ⟨rfl, hb1⟩; have hz1 := hb1.size; simp at hz1; have HX1 := Lib.hid (keep_block hb1 (show ((w.alloc (vO k t PA ps.length pc IA is.length ic re im)).alloc (vO k2 t2 PB qs.length qc IB js.length jc re2 im2)).heap[w.heap.size]? = _ from keep_block ((Below.refl _ _).alloc (Nat.le_refl _) _) (heap_alloc_new _ _))); obtain ⟨d0, d1, d2, d3, d4, d5⟩ := facts6 HX1.out; have HY1 := Lib.hid (keep_block hb1 (box2 (w := w) (o := vO k t PA ps.length pc IA is.length ic re im) (o2 := vO k2 t2 PB qs.length qc IB js.length jc re2 im2))); obtain ⟨e0, e1, e2, e3, e4, e5⟩ := facts6 HY1.out)
          | (go_at_call 13; refine Calls.mono (dump_is _ _ _ (HU.out.below ?_) HR2.out (HH.out.below ?_)) ?_; (focus ((repeat (first | exact Below.refl _ _ | (refine Below.drew ?_) | (refine Go.below_drewN ?_ _) | (refine Below.alloc ?_ (by first | (simp; done) | omega | (simp; omega)) _) | (refine Below.setCell ?_ (by first | (simp; done) | omega | (simp; omega)) _) | (refine Below.trans ?_ (Below.mono (by assumption) (by first | (simp; done) | omega | (simp; omega)))))); done)); (focus ((repeat (first | exact Below.refl _ _ | (refine Below.drew ?_) | (refine Go.below_drewN ?_ _) | (refine Below.alloc ?_ (by first | (simp; done) | omega | (simp; omega)) _) | (refine Below.setCell ?_ (by first | (simp; done) | omega | (simp; omega)) _) | (refine Below.trans ?_ (Below.mono (by assumption) (by first | (simp; done) | omega | (simp; omega)))))); done)); rintro e w2 ⟨rfl, hb2⟩; have hz2 := hb2.size; have HX2 := Lib.hid (keep_block hb2 HX1.out); obtain ⟨d0, d1, d2, d3, d4, d5⟩ := facts6 HX2.out; have HY2 := Lib.hid (keep_block hb2 HY1.out); obtain ⟨e0, e1, e2, e3, e4, e5⟩ := facts6 HY2.out)
          | (go_at_call 12; refine Calls.mono (alive_is _ (HH.out.below ?_)) ?_; (focus ((repeat (first | exact Below.refl _ _ | (refine Below.drew ?_) | (refine Go.below_drewN ?_ _) | (refine Below.alloc ?_ (by first | (simp; done) | omega | (simp; omega)) _) | (refine Below.setCell ?_ (by first | (simp; done) | omega | (simp; omega)) _) | (refine Below.trans ?_ (Below.mono (by assumption) (by first | (simp; done) | omega | (simp; omega)))))); done)); rintro e w4 ⟨rfl, hb4⟩; have hz4 := hb4.size; have HX4 := Lib.hid (keep_block hb4 HX2.out); obtain ⟨d0, d1, d2, d3, d4, d5⟩ := facts6 HX4.out; have HY4 := Lib.hid (keep_block hb4 HY2.out); obtain ⟨e0, e1, e2, e3, e4, e5⟩ := facts6 HY4.out))
      go_ret
      exact ⟨rfl, (by ((repeat (first | exact Below.refl _ _ | (refine Below.drew ?_) | (refine Go.below_drewN ?_ _) | (refine Below.alloc ?_ (by first | (simp; done) | omega | (simp; omega)) _) | (refine Below.setCell ?_ (by first | (simp; done) | omega | (simp; omega)) _) | (refine Below.trans ?_ (Below.mono (by assumption) (by first | (simp; done) | omega | (simp; omega)))))); done))⟩
    · have HR2 := Lib.hid hr2
      clear hr hr2
      go_enter Tryd.func8, Tryd.ntmps8
      go_wp2_with (first
          | (go_at_call 13; refine Calls.mono (dump_no _ _ _ (HV.out.below ?_) HR.out) ?_; (focus ((repeat (first | exact Below.refl _ _ | (refine Below.drew ?_) | (refine Go.below_drewN ?_ _) | (refine Below.alloc ?_ (by first | (simp; done) | omega | (simp; omega)) _) | (refine Below.setCell ?_ (by first | (simp; done) | omega | (simp; omega)) _) | (refine Below.trans ?_ (Below.mono (by assumption) (by first | (simp; done) | omega | (simp; omega)))))); done)); rintro e w1 ⟨rfl, hb1⟩; have hz1 := hb1.size; simp at hz1; have HX1 := Lib.hid (keep_block hb1 (show ((w.alloc (vO k t PA ps.length pc IA is.length ic re im)).alloc (vO k2 t2 PB qs.length qc IB js.length jc re2 im2)).heap[w.heap.size]? = _ from keep_block ((Below.refl _ _).alloc (Nat.le_refl _) _) (heap_alloc_new _ _))); obtain ⟨d0, d1, d2, d3, d4, d5⟩ := facts6 HX1.out; have HY1 := Lib.hid (keep_block hb1 (box2 (w := w) (o := vO k t PA ps.length pc IA is.length ic re im) (o2 := vO k2 t2 PB qs.length qc IB js.length jc re2 im2))); obtain ⟨e0, e1, e2, e3, e4, e5⟩ := facts6 HY1.out)
          | (go_at_call 13; refine Calls.mono (dump_no _ _ _ (HU.out.below ?_) HR2.out) ?_; (focus ((repeat (first | exact Below.refl _ _ | (refine Below.drew ?_) | (refine Go.below_drewN ?_ _) | (refine Below.alloc ?_ (by first | (simp; done) | omega | (simp; omega)) _) | (refine Below.setCell ?_ (by first | (simp; done) | omega | (simp; omega)) _) | (refine Below.trans ?_ (Below.mono (by assumption) (by first | (simp; done) | omega | (simp; omega)))))); done)); rintro e w2 ⟨rfl, hb2⟩; have hz2 := hb2.size; have HX2 := Lib.hid (keep_block hb2 HX1.out); obtain ⟨d0, d1, d2, d3, d4, d5⟩ := facts6 HX2.out; have HY2 := Lib.hid (keep_block hb2 HY1.out); obtain ⟨e0, e1, e2, e3, e4, e5⟩ := facts6 HY2.out)
          | (go_at_call 12; refine Calls.mono (alive_is _ (HH.out.below ?_)) ?_; (focus ((repeat (first | exact Below.refl _ _ | (refine Below.drew ?_) | (refine Go.below_drewN ?_ _) | (refine Below.alloc ?_ (by first | (simp; done) | omega | (simp; omega)) _) | (refine Below.setCell ?_ (by first | (simp; done) | omega | (simp; omega)) _) | (refine Below.trans ?_ (Below.mono (by assumption) (by first | (simp; done) | omega | (simp; omega)))))); done)); rintro e w4 ⟨rfl, hb4⟩; have hz4 := hb4.size; have HX4 := Lib.hid (keep_block hb4 HX2.out); obtain ⟨d0, d1, d2, d3, d4, d5⟩ := facts6 HX4.out; have HY4 := Lib.hid (keep_block hb4 HY2.out); obtain ⟨e0, e1, e2, e3, e4, e5⟩ := facts6 HY4.out))
      go_ret
      exact ⟨rfl, (by ((repeat (first | exact Below.refl _ _ | (refine Below.drew ?_) | (refine Go.below_drewN ?_ _) | (refine Below.alloc ?_ (by first | (simp; done) | omega | (simp; omega)) _) | (refine Below.setCell ?_ (by first | (simp; done) | omega | (simp; omega)) _) | (refine Below.trans ?_ (Below.mono (by assumption) (by first | (simp; done) | omega | (simp; omega)))))); done))⟩
end Go.Proofs.YtdpgkihecpjijaaDoor.T
