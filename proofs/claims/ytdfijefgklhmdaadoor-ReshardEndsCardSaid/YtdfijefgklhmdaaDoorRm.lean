import Derived.Deep.DeepCutAuto
import Derived.Laws.OwnMore
import Derived.OwnWalk
import Derived.Lib.AppendStr
import Derived.Lib.SliceRun
import Derived.Lib.SmallJoins
import Derived.IntWalk
import Derived.Lib.ItoaLen
import Derived.Test.YtdfijefgklhmdaaDoorProg
import Derived.Test.YtdfijefgklhmdaaDoorShelf
import Derived.Test.YtdfijefgklhmdaaDoorMem
import Derived.Test.YtdfijefgklhmdaaDoorR1
import Derived.Test.YtdfijefgklhmdaaDoorRa
import Derived.Test.YtdfijefgklhmdaaDoorRb
import Derived.Test.YtdfijefgklhmdaaDoorRc
import Derived.Test.YtdfijefgklhmdaaDoorRe
import Derived.Test.YtdfijefgklhmdaaDoorRf
import Derived.Test.YtdfijefgklhmdaaDoorRg
import Derived.Test.YtdfijefgklhmdaaDoorRh
import Derived.Test.YtdfijefgklhmdaaDoorRi
import Derived.Test.YtdfijefgklhmdaaDoorRk
import Derived.Test.YtdfijefgklhmdaaDoorRl
import Derived.WalkKit
import Derived.Outline
import Derived.WalkLawsBesides
import Derived.Deep.QuietTactic
import Derived.BigQuiet
import Derived.Lib.Hide
import Derived.Handy
import Derived.Deep.RegionHeld3
import Derived.Deep.DrawnRows
import Derived.KernelRfl
import Derived.Great.Walk
import Derived.Test.YtdfijefgklhmdaaDoorOwn
namespace Go.Proofs.YtdfijefgklhmdaaDoor.T
open Go Go.RowKit Go.Sort Mem Own
set_option maxRecDepth 100000
set_option maxHeartbeats 1000000
set_option linter.unusedVariables false
set_option linter.unusedSimpArgs false

theorem failed_is (g : Nat) (P : Option Addr) (pc : Nat) (Q : Option Addr) (qc : Nat) (D : Dr) (w : World) (h : DrRd w g P pc Q qc D) : Calls Tryd.prog 18 #[.pointer (some ⟨g, 0, none⟩)] w fun e w' => e = .returned (.bool D.failed) ∧ Below w.heap.size w w' := by
  obtain ⟨d0, d1, d2, d3, d4, d5, d6, d7⟩ := facts8 h.blk
  obtain ⟨plan, B, T, dn, call, queue, ep, failed⟩ := D
  dsimp only at d7 ⊢
  clear h
  go_enter Tryd.func18, Tryd.ntmps18
  go_wp2
  go_ret
  exact ⟨rfl, (by ((repeat (first | exact Below.refl _ _ | (refine Below.drew ?_) | (refine Go.below_drewN ?_ _) | (refine Below.alloc ?_ (by first | (simp; done) | omega | (simp; omega)) _) | (refine Below.setCell ?_ (by first | (simp; done) | omega | (simp; omega)) _) | (refine Below.trans ?_ (Below.mono (by assumption) (by first | (simp; done) | omega | (simp; omega)))))); done))⟩
/-- Two drivers that tell the same. -/
theorem stands_is (g : Nat) (C : Option Addr) (k : Nat) (D : Dr) (A : Option Addr) (n c : Nat) (B T call : Int) (Q : Option Addr) (qn qc : Nat) (ep : Int) (fl : Bool) (w : World) (nx : Int) (L : List ByteArray) (b : Bool)
    (hD : DrRd w g C k none 0 D) (hl : D.plan.length ≤ 1000) (hd : D.dn ≤ D.plan.length) (hn : (D.plan.length : Int) - (D.dn : Int) = (n : Int)) (hf : D.failed = fl) (hL : L.length ≤ 100)
    (h1 : ∀ wx, Below w.heap.size w wx → Calls Tryd.prog 13 #[.pointer (some ⟨g, 0, none⟩)] wx (NextOut nx L b wx))
    (h2 : ∀ wx, Below w.heap.size w wx → Calls Tryd.prog 23 #[.agg #[.slice A n c, .int .i64 B, .int .i64 T, .int .i64 call, .slice Q qn qc, .int .i64 ep, .bool fl]] wx (NextOut nx L b wx)) :
    Calls Tryd.prog 11 #[.pointer (some ⟨g, 0, none⟩), .agg #[.slice A n c, .int .i64 B, .int .i64 T, .int .i64 call, .slice Q qn qc, .int .i64 ep, .bool fl]] w fun e w' => e = .returned (.bool true) ∧ Below w.heap.size w w' := by
  have HD := Lib.hid hD; have H1 := Lib.hid h1; have H2 := Lib.hid h2; have HN := Lib.hid hn; have HF := Lib.hid hf; have HL := Lib.hid hL
  have HLE := Lib.hid hl; have HDE := Lib.hid hd
  have HBX := Lib.hid (heap_alloc_new w (.cells #[.slice A n c, .int .i64 B, .int .i64 T, .int .i64 call, .slice Q qn qc, .int .i64 ep, .bool fl] 32))
  have HB0 := Lib.hid ((Below.refl w.heap.size w).alloc (Nat.le_refl _) (.cells #[.slice A n c, .int .i64 B, .int .i64 T, .int .i64 call, .slice Q qn qc, .int .i64 ep, .bool fl] 32))
  clear hD h1 h2 hn hf hL hl hd
  go_enter Tryd.func11, Tryd.ntmps11
  go_upto_region 3 with (first
    | (go_at_call 13; refine Calls.mono (H1.out _ HB0.out) ?_; rintro e w1 ⟨A1, c1, rfl, HR1, hb1⟩; have HX1 := Lib.hid (keep_block hb1 HBX.out); have HB1 := Lib.hid (HB0.out.trans (hb1.mono HB0.out.size)); have hz1 := HB1.out.size; obtain ⟨y0, y1, y2, y3, y4, y5, y6⟩ := facts7 HX1.out)
    | (go_at_call 23; refine Calls.mono (H2.out _ HB1.out) ?_; rintro e w2 ⟨A2, c2, rfl, HR2, hb2⟩; have HX2 := Lib.hid (keep_block hb2 HX1.out); have HB2 := Lib.hid (HB1.out.trans (hb2.mono hz1)); have hz2 := HB2.out.size; clear y0 y1 y2 y3 y4 y5 y6))
  obtain ⟨y0, y1, y2, y3, y4, y5, y6⟩ := facts7 HX2.out
  have HR1b := Lib.hid (HR1.out.below hb2)
  have HD2 := Lib.hid (HD.out.below HB2.out)
  clear hb1 hb2
  have hwb := lt_of_block HX2.out
  go_region_held3 (fun w' => w'.cell? ⟨w.heap.size, 0, none⟩ = some (.slice A n c) ∧ w'.cell? ⟨w.heap.size, 6, none⟩ = some (.bool fl) ∧ Below w2.heap.size w2 w')
    (first | exact ⟨u1, u2, hS3⟩ | exact ⟨t1, t2, hS2⟩ | exact ⟨z1, z2, hS1⟩ | (refine ⟨by simpa [go_sem] using y0, by simpa [go_sem] using y6, (by ((repeat (first | exact Below.refl _ _ | (refine Below.drew ?_) | (refine Go.below_drewN ?_ _) | (refine Below.alloc ?_ (by first | (simp; done) | omega | (simp; omega)) _) | (refine Below.setCell ?_ (by first | (simp; done) | omega | (simp; omega)) _) | (refine Below.trans ?_ (Below.mono (by assumption) (by first | (simp; done) | omega | (simp; omega)))))); done))⟩))
    (first
      | (go_at_call 14; refine Calls.mono (refs_is _ _ L L _ _ _ (HR1b.out.below ?_) (HR2.out.below ?_) (by have := HL.out; unfold maxLen; omega)) ?_; (focus ((repeat (first | exact Below.refl _ _ | (refine Below.drew ?_) | (refine Go.below_drewN ?_ _) | (refine Below.alloc ?_ (by first | (simp; done) | omega | (simp; omega)) _) | (refine Below.setCell ?_ (by first | (simp; done) | omega | (simp; omega)) _) | (refine Below.trans ?_ (Below.mono (by assumption) (by first | (simp; done) | omega | (simp; omega)))))); done)); (focus ((repeat (first | exact Below.refl _ _ | (refine Below.drew ?_) | (refine Go.below_drewN ?_ _) | (refine Below.alloc ?_ (by first | (simp; done) | omega | (simp; omega)) _) | (refine Below.setCell ?_ (by first | (simp; done) | omega | (simp; omega)) _) | (refine Below.trans ?_ (Below.mono (by assumption) (by first | (simp; done) | omega | (simp; omega)))))); done)); rintro e w5 ⟨rfl, hb5⟩; rw [decide_eq_true rfl]; have hS1 : RowKit.Below w2.heap.size w2 w5 := (by ((repeat (first | exact Below.refl _ _ | (refine Below.drew ?_) | (refine Go.below_drewN ?_ _) | (refine Below.alloc ?_ (by first | (simp; done) | omega | (simp; omega)) _) | (refine Below.setCell ?_ (by first | (simp; done) | omega | (simp; omega)) _) | (refine Below.trans ?_ (Below.mono (by assumption) (by first | (simp; done) | omega | (simp; omega)))))); done)); have z1 := cell_below hS1 y0; have z2 := cell_below hS1 y6)
      | (go_at_call 16; refine Calls.mono (left_is g C k none 0 D _ (HD2.out.below hS1) HLE.out HDE.out) ?_; rintro e w6 ⟨rfl, hb6⟩; rw [HN.out]; have hS2 : RowKit.Below w2.heap.size w2 w6 := hS1.trans (hb6.mono hS1.size); have t1 := cell_below hS2 y0; have t2 := cell_below hS2 y6)
      | (go_at_call 18; refine Calls.mono (failed_is g C k none 0 D _ (HD2.out.below hS2)) ?_; rintro e w7 ⟨rfl, hb7⟩; rw [HF.out]; have hS3 : RowKit.Below w2.heap.size w2 w7 := hS2.trans (hb7.mono hS2.size); have u1 := cell_below hS3 y0; have u2 := cell_below hS3 y6))
  all_goals
    go_wp2
    go_ret
    exact ⟨by first | rfl | simp, HB2.out.trans (hS3.mono hz2)⟩
end Go.Proofs.YtdfijefgklhmdaaDoor.T
