import Derived.Test.YthncmfchphigdaaDoorPt3
namespace Go.Proofs.YthncmfchphigdaaDoor.T
open Go Go.RowKit Flt
set_option maxRecDepth 100000
set_option maxHeartbeats 8000000
set_option linter.unusedVariables false
set_option linter.unusedSimpArgs false

theorem alive_any (w : World) (hT : Tab w) :
    Calls Tryd.prog 15 #[] w fun e w' => e = .returned (.bool true) ∧ Below w.heap.size w w' := by
  have hu23 := Tryd.underlying23
  have hr : rightB 11 2 = true := by decide
  have hV : madeV (1 * 3 - 2 * -4) (1 * -4 + 2 * 3) = .tuple #[pt 11 2, .int .i64 0] := by
    simp [okx, oky, oke, rightB, partB]
  have HV := Lib.hid hV; clear hV
  have hP : printL 11 2 = [49, 49, 43, 50, 105] := by decide +kernel
  go_enter Tryd.func15, Tryd.ntmps15
  go_wp2_with (first
    | (go_at_call 13; refine (Times_yes 1 2 3 (-4) _ (by decide) (by decide)).mono ?_; rintro e w1 ⟨rfl, hb1⟩; rw [HV.out]; have hz1 := hb1.size)
    | (go_at_call 24; refine Calls.mono (Print_yes _ _ _ (by decide) (hT.keep ?_)) ?_; (focus ((repeat (first | exact Below.refl _ _ | (refine Below.drew ?_) | (refine Go.below_drewN ?_ _) | (refine Below.alloc ?_ (by first | (simp; done) | omega | (simp; omega)) _) | (refine Below.setCell ?_ (by first | (simp; done) | omega | (simp; omega)) _) | (refine Below.trans ?_ (Below.mono hb1 (by first | (simp; done) | omega | (simp; omega)))))); done)); rintro e w2 ⟨rfl, hb2⟩; obtain ⟨hc2, hf2⟩ := after hb2; have hz2 : w1.heap.size < w2.heap.size := by have := hb2.size; simp at this; omega)
    | (go_at_call 16; refine (Right_any 11 2 _).mono ?_; rintro e w3 ⟨rfl, rfl⟩)
    | (go_at_call 18; refine (Norm_yes 11 2 _ (by decide)).mono ?_; rintro e w4 ⟨rfl, hb4⟩))
  go_ret
  exact ⟨rfl, (by repeat (first | exact Below.refl _ _ | (refine Below.drew ?_) | (refine Go.below_drewN ?_ _) | (refine Below.alloc ?_ (by first | (simp; done) | omega | (simp; omega)) _) | (refine Below.setCell ?_ (by first | (simp; done) | omega | (simp; omega)) _) | (refine Below.trans ?_ (Below.mono hb4 (by first | (simp; done) | omega | (simp; omega)))) | (refine Below.trans ?_ (Below.mono hb2 (by first | (simp; done) | omega | (simp; omega)))) | (refine Below.trans ?_ (Below.mono hb1 (by first | (simp; done) | omega | (simp; omega))))))⟩
end Go.Proofs.YthncmfchphigdaaDoor.T
