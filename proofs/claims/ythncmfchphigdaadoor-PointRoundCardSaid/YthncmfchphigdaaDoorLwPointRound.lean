/- The law PointRound holds for every input: from its walk to the given row and card. -/
import Derived.Test.YthncmfchphigdaaDoorCards
import Derived.Test.YthncmfchphigdaaDoorTie
import Derived.Test.YthncmfchphigdaaDoorPt6
import Derived.Test.YthncmfchphigdaaDoorLwBase
namespace Go.Proofs.YthncmfchphigdaaDoor.Laws
open Go Go.ChangeShapes Go.WideShapes Go.ChangeAt Go.RowKit Go.Joins
open Go.Proofs.YthncmfchphigdaaDoor Go.Proofs.YthncmfchphigdaaDoor.T
set_option linter.unusedVariables false
set_option maxRecDepth 100000

theorem pointRound_lifted (os : Os) (started : os.Started) (H : Type) (enc : TypeId × Value → H) :
    ReturnsInHanded {} Tryd.checked os 9 .any (fun w args => (Rows.pointRoundSpec.pre enc Tryd.prog Tryd.f9 [] false w args ∧ laidMetH Tryd.prog laid3 w) ∧ sizedMet enc Tryd.prog Tryd.f9 (OpenSpec.ofChange Rows.pointRoundSpec) false w args)
      (Rows.pointRoundSpec.post enc Tryd.prog Tryd.f9 false true false false) :=
  Close.lifted_laid (C := Tryd.checked) own started (by kernel_rfl) Tryd.func9 laidOut (by kernel_rfl) rfl Tryd.underlying4 rfl
    (fun ds h => by match ds, h with | [d1, d2, d3], _ => rfl)
    (ChangeSpec.witness_at (enc := enc) (C := Tryd.checked) (os := os) (X := fun w _ => laidMetH Tryd.prog laid3 w) false (laidWorld os) #[pt 0 0, .int .i64 0, .int .i64 0] 8 rfl (by kernel_rfl) (by kernel_rfl) (by kernel_rfl) (by kernel_rfl) (by kernel_rfl) (laidWorld_met os _))
    (fun W base args ds p hval hA hlt hsz hL => by
      have hA' : DataW.TrodAll enc Tryd.prog W 0 (fun _ => true) true Tryd.f9.params.toList args.toList ds p := hA
      have hval' : ∀ (j : Nat) t v, Tryd.f9.params[j]? = some t → args[j]? = some v → Value.okWide Tryd.prog W .any base t v := hval
      rw [Tryd.params9] at hA' hval'
      obtain ⟨v0, vs0, d0, ds0, p0, q0, hargs, rfl, rfl, h0, r0⟩ := trodAll_cons hA'
      obtain ⟨v1, vs1, d1, ds1, p1, q1, rfl, rfl, rfl, h1, r1⟩ := trodAll_cons r0
      obtain ⟨v2, vs2, d2, ds2, p2, q2, rfl, rfl, rfl, h2, r2⟩ := trodAll_cons r1
      obtain ⟨rfl, rfl, rfl⟩ := trodAll_nil r2
      obtain rfl : args = #[v0, v1, v2] := by cases args; simp_all
      obtain ⟨a0, b0, rfl⟩ := open_pt (hval' 0 23 v0 rfl rfl) h0
      obtain ⟨a1, rfl, _, _, _⟩ := open_int Tryd.underlying3 (hval' 1 3 v1 rfl rfl) h1
      obtain ⟨a2, rfl, _, _, _⟩ := open_int Tryd.underlying3 (hval' 2 3 v2 rfl rfl) h2
      exact PointRound_any a0 b0 a1 a2 W (tab_of hL))

theorem pointRound_over : Rows.pointRoundRow.holds Tryd.pinned (OpenSpec.ofChange Rows.pointRoundSpec) :=
  OpenClaim.holds_of_wide 9 Tryd.f9 rfl rfl rfl rfl rfl rfl rfl ⟨rfl, rfl, rfl, rfl, rfl⟩ rfl rfl rfl rfl rfl (by kernel_rfl) Tryd.func9 (by kernel_rfl)
    (of_decide_eq_true (by kernel_rfl)) (by unfold Func.isWrapper; rw [if_neg (of_decide_eq_false (by kernel_rfl))]; exact ⟨rfl, rfl⟩)
    (fun os started H enc _ => pointRound_lifted os started H enc)

theorem pointRound_card : Rows.PointRoundCardSaid :=
  Claim7.holds_tied_plain_at .later [] [.data, .data, .data] true (true, "591bc850a55c1e01072219c582a70407654d8cc639fa3f8c628468b7a0644976") true
    pointRound_over (fun _ h => by cases h) (by kernel_rfl) (fun _ h => by cases h) pointRound_row_tie rfl ⟨rfl, rfl⟩ (by kernel_rfl) rfl
    (fun f fn hf hfn => by
      obtain rfl : f = 9 := Option.some.inj ((show Tryd.prog.funcNamed "marshalyard/marshalyardlaw09.PointRound" = some 9 by kernel_rfl).symm.trans hf) |>.symm
      obtain rfl : fn = Tryd.f9 := (Option.some.inj (Tryd.func9.symm.trans hfn)).symm
      exact ⟨by kernel_rfl, fun j t ht => by
        rw [Tryd.params9] at ht
        have hall : ([23, 3, 3].all fun t => Tryd.prog.wantsStandIn t == false) = true := by kernel_rfl
        have hm : t ∈ [23, 3, 3] := List.mem_of_getElem? (by simpa using ht)
        exact (beq_iff_eq.1 ((List.all_eq_true.1 hall) t hm) : Tryd.prog.wantsStandIn t = false)⟩)
    (by kernel_rfl)
#print axioms pointRound_card
end Go.Proofs.YthncmfchphigdaaDoor.Laws
