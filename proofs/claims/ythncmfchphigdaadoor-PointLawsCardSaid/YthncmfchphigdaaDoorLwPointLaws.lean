/- The law PointLaws holds for every input: from its walk to the given row and card. -/
import Derived.Test.YthncmfchphigdaaDoorCards
import Derived.Test.YthncmfchphigdaaDoorTie
import Derived.Test.YthncmfchphigdaaDoorPt7
import Derived.Test.YthncmfchphigdaaDoorLwBase
namespace Go.Proofs.YthncmfchphigdaaDoor.Laws
open Go Go.ChangeShapes Go.WideShapes Go.ChangeAt Go.RowKit Go.Joins
open Go.Proofs.YthncmfchphigdaaDoor Go.Proofs.YthncmfchphigdaaDoor.T
set_option linter.unusedVariables false
set_option maxRecDepth 100000

theorem pointLaws_lifted (os : Os) (started : os.Started) (H : Type) (enc : TypeId × Value → H) :
    ReturnsInHanded {} Tryd.checked os 6 .any (fun w args => (Rows.pointLawsSpec.pre enc Tryd.prog Tryd.f6 [] false w args ∧ laidMetH Tryd.prog laid3 w) ∧ sizedMet enc Tryd.prog Tryd.f6 (OpenSpec.ofChange Rows.pointLawsSpec) false w args)
      (Rows.pointLawsSpec.post enc Tryd.prog Tryd.f6 false true false false) :=
  Close.lifted_laid (C := Tryd.checked) own started (by kernel_rfl) Tryd.func6 laidOut (by kernel_rfl) rfl Tryd.underlying4 rfl
    (fun ds h => by match ds, h with | [d1, d2, d3], _ => rfl)
    (ChangeSpec.witness_at (enc := enc) (C := Tryd.checked) (os := os) (X := fun w _ => laidMetH Tryd.prog laid3 w) false (laidWorld os) #[pt 0 0, pt 0 0, pt 0 0] 8 rfl (by kernel_rfl) (by kernel_rfl) (by kernel_rfl) (by kernel_rfl) (by kernel_rfl) (laidWorld_met os _))
    (fun W base args ds p hval hA hlt hsz hL => by
      have hA' : DataW.TrodAll enc Tryd.prog W 0 (fun _ => true) true Tryd.f6.params.toList args.toList ds p := hA
      have hval' : ∀ (j : Nat) t v, Tryd.f6.params[j]? = some t → args[j]? = some v → Value.okWide Tryd.prog W .any base t v := hval
      rw [Tryd.params6] at hA' hval'
      obtain ⟨v0, vs0, d0, ds0, p0, q0, hargs, rfl, rfl, h0, r0⟩ := trodAll_cons hA'
      obtain ⟨v1, vs1, d1, ds1, p1, q1, rfl, rfl, rfl, h1, r1⟩ := trodAll_cons r0
      obtain ⟨v2, vs2, d2, ds2, p2, q2, rfl, rfl, rfl, h2, r2⟩ := trodAll_cons r1
      obtain ⟨rfl, rfl, rfl⟩ := trodAll_nil r2
      obtain rfl : args = #[v0, v1, v2] := by cases args; simp_all
      obtain ⟨a0, b0, rfl⟩ := open_pt (hval' 0 23 v0 rfl rfl) h0
      obtain ⟨a1, b1, rfl⟩ := open_pt (hval' 1 23 v1 rfl rfl) h1
      obtain ⟨a2, b2, rfl⟩ := open_pt (hval' 2 23 v2 rfl rfl) h2
      exact PointLaws_any a0 b0 a1 b1 a2 b2 W (tab_of hL))

theorem pointLaws_over : Rows.pointLawsRow.holds Tryd.pinned (OpenSpec.ofChange Rows.pointLawsSpec) :=
  OpenClaim.holds_of_wide 6 Tryd.f6 rfl rfl rfl rfl rfl rfl rfl ⟨rfl, rfl, rfl, rfl, rfl⟩ rfl rfl rfl rfl rfl (by kernel_rfl) Tryd.func6 (by kernel_rfl)
    (of_decide_eq_true (by kernel_rfl)) (by unfold Func.isWrapper; rw [if_neg (of_decide_eq_false (by kernel_rfl))]; exact ⟨rfl, rfl⟩)
    (fun os started H enc _ => pointLaws_lifted os started H enc)

theorem pointLaws_card : Rows.PointLawsCardSaid :=
  Claim7.holds_tied_plain_at .later [] [.data, .data, .data] true (true, "591bc850a55c1e01072219c582a70407654d8cc639fa3f8c628468b7a0644976") true
    pointLaws_over (fun _ h => by cases h) (by kernel_rfl) (fun _ h => by cases h) pointLaws_row_tie rfl ⟨rfl, rfl⟩ (by kernel_rfl) rfl
    (fun f fn hf hfn => by
      obtain rfl : f = 6 := Option.some.inj ((show Tryd.prog.funcNamed "marshalyard/marshalyardlaw09.PointLaws" = some 6 by kernel_rfl).symm.trans hf) |>.symm
      obtain rfl : fn = Tryd.f6 := (Option.some.inj (Tryd.func6.symm.trans hfn)).symm
      exact ⟨by kernel_rfl, fun j t ht => by
        rw [Tryd.params6] at ht
        have hall : ([23, 23, 23].all fun t => Tryd.prog.wantsStandIn t == false) = true := by kernel_rfl
        have hm : t ∈ [23, 23, 23] := List.mem_of_getElem? (by simpa using ht)
        exact (beq_iff_eq.1 ((List.all_eq_true.1 hall) t hm) : Tryd.prog.wantsStandIn t = false)⟩)
    (by kernel_rfl)
#print axioms pointLaws_card
end Go.Proofs.YthncmfchphigdaaDoor.Laws
