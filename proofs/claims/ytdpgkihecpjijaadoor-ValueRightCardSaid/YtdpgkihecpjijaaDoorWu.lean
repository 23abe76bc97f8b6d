import Derived.Deep.DeepCutAuto
import Derived.Laws.OwnMore
import Derived.OwnWalk
import Derived.Lib.AppendStr
import Derived.Laws.IdiomStrings
import Derived.Lib.ConvBytes
import Derived.Lib.SmallJoins
import Derived.IntWalk
import Derived.Deep.AppendLies
import Derived.Deep.RegionLaw
import Derived.Test.YtdpgkihecpjijaaDoorProg
import Derived.Test.YtdpgkihecpjijaaDoorMem
import Derived.Test.YtdpgkihecpjijaaDoorVw
import Derived.Test.YtdpgkihecpjijaaDoorVx
import Derived.Test.YtdpgkihecpjijaaDoorVy
import Derived.Test.YtdpgkihecpjijaaDoorWc
import Derived.Test.YtdpgkihecpjijaaDoorWf
import Derived.Test.YtdpgkihecpjijaaDoorWr
import Derived.Test.YtdpgkihecpjijaaDoorWt
import Derived.WalkKit
import Derived.Outline
import Derived.WalkLawsBesides
import Derived.Deep.QuietTactic
import Derived.BigQuiet
import Derived.Lib.Hide
import Derived.Handy
import Derived.Deep.RegionHeld3
import Derived.Deep.DrawnRows
import Derived.KernelRfl
import Derived.Great.Walk
import Derived.Test.YtdpgkihecpjijaaDoorOwn
namespace Go.Proofs.YtdpgkihecpjijaaDoor.T
open Go Go.RowKit Mem Own
set_option maxRecDepth 100000
set_option maxHeartbeats 1000000
set_option linter.unusedVariables false
set_option linter.unusedSimpArgs false

/-- ValueRight -/
theorem rights_is (v : Value) (a : Vl) (w : World) (hv : VRd w v a) (hh : Hv w) : Calls Tryd.prog 9 #[v] w fun e w' => e = .returned (.bool true) ∧ Below w.heap.size w w' := by
  have HV := Lib.hid hv; have HH := Lib.hid hh
  obtain ⟨⟨PA, pc, IA, ic, rfl, -, -⟩, -⟩ := hv
  obtain ⟨k, t, ps, is, re, im⟩ := a
  dsimp only at HV ⊢
  clear hh
  have hu := Tryd.underlying25
  obtain ⟨s, hs⟩ : ∃ s, s = (dumpS ⟨k, t, ps, is, re, im⟩).size := ⟨_, rfl⟩
  obtain ⟨r, hr⟩ : ∃ r, r = rB ⟨k, t, ps, is, re, im⟩ := ⟨_, rfl⟩
  obtain ⟨y, hy⟩ : ∃ y, y = typeS k := ⟨_, rfl⟩
  have HSS := Lib.hid hs; have HRR := Lib.hid hr; have HYY := Lib.hid hy
  clear hs hr hy
  by_cases hf : fewV ⟨k, t, ps, is, re, im⟩
  · have HF := Lib.hid hf
    clear hf
    go_enter Tryd.func9, Tryd.ntmps9
    go_upto_region 3 with (first
      | (go_at_call 11; refine Calls.mono (few_yes _ _ _ (HV.out.below ?_) HF.out) ?_; (focus ((repeat (first | exact Below.refl _ _ | (refine Below.drew ?_) | (refine Go.below_drewN ?_ _) | (refine Below.alloc ?_ (by first | (simp; done) | omega | (simp; omega)) _) | (refine Below.setCell ?_ (by first | (simp; done) | omega | (simp; omega)) _) | (refine Below.trans ?_ (Below.mono (by assumption) (by first | (simp; done) | omega | (simp; omega)))))); done)); rintro e w1 ⟨rfl, hb1⟩; have hz1 := hb1.size; (try simp at hz1); have HX1 := Lib.hid (keep_block hb1 (heap_alloc_new w (vO k t PA ps.length pc IA is.length ic re im))); (try (clear d0 d1 d2 d3 d4 d5)); obtain ⟨d0, d1, d2, d3, d4, d5⟩ := facts6 HX1.out)
      | fail)
    rw [alloc_size] at hb1
    clear HX1
    go_region_held3 (fun w' => w'.cell? ⟨w.heap.size, 0, none⟩ = some (.int .i64 k) ∧ w'.cell? ⟨w.heap.size, 1, none⟩ = some (.string t) ∧ w'.cell? ⟨w.heap.size, 2, none⟩ = some (.slice PA ps.length pc) ∧ w'.cell? ⟨w.heap.size, 3, none⟩ = some (.slice IA is.length ic) ∧ w'.cell? ⟨w.heap.size, 4, none⟩ = some (.int .i64 re) ∧ w'.cell? ⟨w.heap.size, 5, none⟩ = some (.int .i64 im) ∧ Below (w.heap.size + 1) (w.alloc (.cells #[.int .i64 k, .string t, .slice PA ps.length pc, .slice IA is.length ic, .int .i64 re, .int .i64 im] 27)) w')
      (((refine ⟨?_, ?_, ?_, ?_, ?_, ?_, ?_⟩ <;> (first | ((repeat (first | exact Below.refl _ _ | (refine Below.drew ?_) | (refine Go.below_drewN ?_ _) | (refine Below.alloc ?_ (by first | (simp; done) | omega | (simp; omega)) _) | (refine Below.setCell ?_ (by first | (simp; done) | omega | (simp; omega)) _) | (refine Below.trans ?_ (Below.mono (by assumption) (by first | (simp; done) | omega | (simp; omega)))))); done) | (simp [go_sem]; done) | (rw [hb8.cell (by first | (simp; done) | omega | (simp; omega))]; (first | (simp only [*]; done) | (simp [go_sem]; done) | (simp [*, go_sem]; done))) | (rw [hb7.cell (by first | (simp; done) | omega | (simp; omega))]; (first | (simp only [*]; done) | (simp [go_sem]; done) | (simp [*, go_sem]; done))) | (rw [hb6.cell (by first | (simp; done) | omega | (simp; omega))]; (first | (simp only [*]; done) | (simp [go_sem]; done) | (simp [*, go_sem]; done))) | (rw [hb5.cell (by first | (simp; done) | omega | (simp; omega))]; (first | (simp only [*]; done) | (simp [go_sem]; done) | (simp [*, go_sem]; done))) | (rw [hb4.cell (by first | (simp; done) | omega | (simp; omega))]; (first | (simp only [*]; done) | (simp [go_sem]; done) | (simp [*, go_sem]; done))) | (rw [hb3.cell (by first | (simp; done) | omega | (simp; omega))]; (first | (simp only [*]; done) | (simp [go_sem]; done) | (simp [*, go_sem]; done))) | (rw [hb2.cell (by first | (simp; done) | omega | (simp; omega))]; (first | (simp only [*]; done) | (simp [go_sem]; done) | (simp [*, go_sem]; done))) | (rw [hb1.cell (by first | (simp; done) | omega | (simp; omega))]; (first | (simp only [*]; done) | (simp [go_sem]; done) | (simp [*, go_sem]; done))) | (simp [*, go_sem]; done)))))
      (first
        | (go_at_call 12; refine Calls.mono (alive_is _ (HH.out.below ?_)) ?_; (focus ((repeat (first | exact Below.refl _ _ | (refine Below.drew ?_) | (refine Go.below_drewN ?_ _) | (refine Below.alloc ?_ (by first | (simp; done) | omega | (simp; omega)) _) | (refine Below.setCell ?_ (by first | (simp; done) | omega | (simp; omega)) _) | (refine Below.trans ?_ (Below.mono (by assumption) (by first | (simp; done) | omega | (simp; omega)))))); done)); rintro e w2 ⟨rfl, hb2⟩; have hz2 : w.heap.size < w2.heap.size := (by have := hb2.size; (try simp at this); omega))
        | (go_at_call 18; refine Calls.mono (right_any _ _ _ (HV.out.below ?_)) ?_; (focus ((repeat (first | exact Below.refl _ _ | (refine Below.drew ?_) | (refine Go.below_drewN ?_ _) | (refine Below.alloc ?_ (by first | (simp; done) | omega | (simp; omega)) _) | (refine Below.setCell ?_ (by first | (simp; done) | omega | (simp; omega)) _) | (refine Below.trans ?_ (Below.mono (by assumption) (by first | (simp; done) | omega | (simp; omega)))))); done)); rintro e w3 ⟨rfl, hb3⟩; have hz3 : w.heap.size < w3.heap.size := (by have := hb3.size; (try simp at this); omega); (try dsimp only); rw [← HRR.out])
        | (go_at_call 19; refine Calls.mono (rright_any _ _ _ (HV.out.below ?_) (few_small HF.out)) ?_; (focus ((repeat (first | exact Below.refl _ _ | (refine Below.drew ?_) | (refine Go.below_drewN ?_ _) | (refine Below.alloc ?_ (by first | (simp; done) | omega | (simp; omega)) _) | (refine Below.setCell ?_ (by first | (simp; done) | omega | (simp; omega)) _) | (refine Below.trans ?_ (Below.mono (by assumption) (by first | (simp; done) | omega | (simp; omega)))))); done)); rintro e w4 ⟨rfl, hb4⟩; have hz4 : w.heap.size < w4.heap.size := (by have := hb4.size; (try simp at this); omega); (try dsimp only); rw [← HRR.out])
        | (go_at_call 20; refine Calls.mono (size_is _ _ _ (HV.out.below ?_) (HH.out.below ?_)) ?_; (focus ((repeat (first | exact Below.refl _ _ | (refine Below.drew ?_) | (refine Go.below_drewN ?_ _) | (refine Below.alloc ?_ (by first | (simp; done) | omega | (simp; omega)) _) | (refine Below.setCell ?_ (by first | (simp; done) | omega | (simp; omega)) _) | (refine Below.trans ?_ (Below.mono (by assumption) (by first | (simp; done) | omega | (simp; omega)))))); done)); (focus ((repeat (first | exact Below.refl _ _ | (refine Below.drew ?_) | (refine Go.below_drewN ?_ _) | (refine Below.alloc ?_ (by first | (simp; done) | omega | (simp; omega)) _) | (refine Below.setCell ?_ (by first | (simp; done) | omega | (simp; omega)) _) | (refine Below.trans ?_ (Below.mono (by assumption) (by first | (simp; done) | omega | (simp; omega)))))); done)); rintro e w5 ⟨rfl, hb5⟩; have hz5 : w.heap.size < w5.heap.size := (by have := hb5.size; (try simp at this); omega); (try dsimp only); rw [← HSS.out])
        | (go_at_call 21; refine Calls.mono (rsize_is _ _ _ (HV.out.below ?_) (few_small HF.out)) ?_; (focus ((repeat (first | exact Below.refl _ _ | (refine Below.drew ?_) | (refine Go.below_drewN ?_ _) | (refine Below.alloc ?_ (by first | (simp; done) | omega | (simp; omega)) _) | (refine Below.setCell ?_ (by first | (simp; done) | omega | (simp; omega)) _) | (refine Below.trans ?_ (Below.mono (by assumption) (by first | (simp; done) | omega | (simp; omega)))))); done)); rintro e w6 ⟨rfl, hb6⟩; have hz6 : w.heap.size < w6.heap.size := (by have := hb6.size; (try simp at this); omega); (try dsimp only); rw [← HSS.out])
        | (go_at_call 22; refine Calls.mono (vtype_is _ _ _ (HV.out.below ?_)) ?_; (focus ((repeat (first | exact Below.refl _ _ | (refine Below.drew ?_) | (refine Go.below_drewN ?_ _) | (refine Below.alloc ?_ (by first | (simp; done) | omega | (simp; omega)) _) | (refine Below.setCell ?_ (by first | (simp; done) | omega | (simp; omega)) _) | (refine Below.trans ?_ (Below.mono (by assumption) (by first | (simp; done) | omega | (simp; omega)))))); done)); rintro e w7 ⟨rfl, hb7⟩; have hz7 : w.heap.size < w7.heap.size := (by have := hb7.size; (try simp at this); omega); (try dsimp only); rw [← HYY.out])
        | (go_at_call 23; refine Calls.mono (rtype_is _ _ _ (HV.out.below ?_)) ?_; (focus ((repeat (first | exact Below.refl _ _ | (refine Below.drew ?_) | (refine Go.below_drewN ?_ _) | (refine Below.alloc ?_ (by first | (simp; done) | omega | (simp; omega)) _) | (refine Below.setCell ?_ (by first | (simp; done) | omega | (simp; omega)) _) | (refine Below.trans ?_ (Below.mono (by assumption) (by first | (simp; done) | omega | (simp; omega)))))); done)); rintro e w8 ⟨rfl, hb8⟩; have hz8 : w.heap.size < w8.heap.size := (by have := hb8.size; (try simp at this); omega); (try dsimp only); rw [← HYY.out])
        | fail)
    all_goals
      go_wp2
      go_ret
      exact ⟨rfl, (by ((repeat (first | exact Below.refl _ _ | (refine Below.drew ?_) | (refine Go.below_drewN ?_ _) | (refine Below.alloc ?_ (by first | (simp; done) | omega | (simp; omega)) _) | (refine Below.setCell ?_ (by first | (simp; done) | omega | (simp; omega)) _) | (refine Below.trans ?_ (Below.mono (by assumption) (by first | (simp; done) | omega | (simp; omega)))))); done))⟩
  · have HF := Lib.hid hf
    clear hf
    go_enter Tryd.func9, Tryd.ntmps9
    go_wp2_with (first
      | (go_at_call 11; refine Calls.mono (few_no _ _ _ (HV.out.below ?_) HF.out) ?_; (focus ((repeat (first | exact Below.refl _ _ | (refine Below.drew ?_) | (refine Go.below_drewN ?_ _) | (refine Below.alloc ?_ (by first | (simp; done) | omega | (simp; omega)) _) | (refine Below.setCell ?_ (by first | (simp; done) | omega | (simp; omega)) _) | (refine Below.trans ?_ (Below.mono (by assumption) (by first | (simp; done) | omega | (simp; omega)))))); done)); rintro e w1 ⟨rfl, hb1⟩; have hz1 := hb1.size; (try simp at hz1); have HX1 := Lib.hid (keep_block hb1 (heap_alloc_new w (vO k t PA ps.length pc IA is.length ic re im))); (try (clear d0 d1 d2 d3 d4 d5)); obtain ⟨d0, d1, d2, d3, d4, d5⟩ := facts6 HX1.out)
      | (go_at_call 12; refine Calls.mono (alive_is _ (HH.out.below ?_)) ?_; (focus ((repeat (first | exact Below.refl _ _ | (refine Below.drew ?_) | (refine Go.below_drewN ?_ _) | (refine Below.alloc ?_ (by first | (simp; done) | omega | (simp; omega)) _) | (refine Below.setCell ?_ (by first | (simp; done) | omega | (simp; omega)) _) | (refine Below.trans ?_ (Below.mono (by assumption) (by first | (simp; done) | omega | (simp; omega)))))); done)); rintro e w4 ⟨rfl, hb4⟩; have hz4 := hb4.size; (try simp at hz4))
      | fail)
    go_ret
    exact ⟨rfl, (by ((repeat (first | exact Below.refl _ _ | (refine Below.drew ?_) | (refine Go.below_drewN ?_ _) | (refine Below.alloc ?_ (by first | (simp; done) | omega | (simp; omega)) _) | (refine Below.setCell ?_ (by first | (simp; done) | omega | (simp; omega)) _) | (refine Below.trans ?_ (Below.mono (by assumption) (by first | (simp; done) | omega | (simp; omega)))))); done))⟩
end Go.Proofs.YtdpgkihecpjijaaDoor.T
