/- The law ReshardEnds holds for every input: from its walk to the given row and card. -/
import Derived.Test.YtdfijefgklhmdaaDoorCards
import Derived.Test.YtdfijefgklhmdaaDoorTie
import Derived.Test.YtdfijefgklhmdaaDoorSp
import Derived.Test.YtdfijefgklhmdaaDoorRj
import Derived.Test.YtdfijefgklhmdaaDoorSu
import Derived.SizedLaws
import Derived.Test.YtdfijefgklhmdaaDoorLwBase20
namespace Go.Proofs.YtdfijefgklhmdaaDoor.Laws
open Go Go.ChangeShapes Go.WideShapes Go.ChangeAt Go.RowKit Go.Joins
open Go.Proofs.YtdfijefgklhmdaaDoor Go.Proofs.YtdfijefgklhmdaaDoor.T
set_option linter.unusedVariables false
set_option maxRecDepth 100000

theorem reshardEnds_lifted (os : Os) (started : os.Started) (H : Type) (enc : TypeId × Value → H) :
    ReturnsInHanded {} Tryd.checked os 7 .any (fun w args => (Rows.reshardEndsSpec.pre enc Tryd.prog Tryd.f7 [] false w args ∧ laidMetH Tryd.prog laid3 w) ∧ sizedMet enc Tryd.prog Tryd.f7 (OpenSpec.ofChange Rows.reshardEndsSpec) false w args)
      (Rows.reshardEndsSpec.post enc Tryd.prog Tryd.f7 false true false false) :=
  Close.lifted_laid (C := Tryd.checked) own started (by kernel_rfl) Tryd.func7 laidOut (by kernel_rfl) rfl Tryd.underlying4 rfl
    (fun ds h => by match ds, h with | [d1, d2], _ => rfl)
    (ChangeSpec.witness_at (enc := enc) (C := Tryd.checked) (os := os) (X := fun w _ => laidMetH Tryd.prog laid3 w) false (laidWorld os) #[plV none 0 0 0 0, .slice none 0 0] 8 rfl (by kernel_rfl) (by kernel_rfl) (by kernel_rfl) (by kernel_rfl) (by kernel_rfl) (laidWorld_met os _))
    (fun W base args ds p hval hA hlt hsz hL => by
      have hA' : DataW.TrodAll enc Tryd.prog W 0 (fun _ => true) true Tryd.f7.params.toList args.toList ds p := hA
      have hval' : ∀ (j : Nat) t v, Tryd.f7.params[j]? = some t → args[j]? = some v → Value.okWide Tryd.prog W .any base t v := hval
      rw [Tryd.params7] at hA' hval'
      obtain ⟨v0, vs0, d0, ds0, p0, q0, hargs, rfl, rfl, h0, r0⟩ := trodAll_cons hA'
      obtain ⟨v1, vs1, d1, ds1, p1, q1, hw1, rfl, rfl, h1, r1⟩ := trodAll_cons r0
      obtain ⟨rfl, rfl, rfl⟩ := trodAll_nil r1
      obtain rfl : args = #[v0, v1] := by cases args; simp_all
      obtain ⟨A0, l0, c0, B0, T0, rfl, hA0, hc0, hm0⟩ := open_plan (hval' 0 24 v0 rfl rfl) h0
      obtain ⟨A1, z1, c1, rfl, hA1, hzn1⟩ := open_ints49 (hval' 1 49 v1 rfl rfl) h1 (fun n hn => of_decide_eq_true (List.all_eq_true.1 hsz n (DataW.weights_mem_each (j := 1) (t := 49) (by rw [Tryd.params7]; rfl) rfl n hn)))
      exact ends_is A0 l0 c0 B0 T0 A1 z1 c1 W hA0 hc0 hm0 hA1 hzn1 (tab_of hL))

theorem reshardEnds_over : Rows.reshardEndsRow.holds Tryd.pinned (OpenSpec.ofChange Rows.reshardEndsSpec) :=
  OpenClaim.holds_of_wide 7 Tryd.f7 rfl rfl rfl rfl rfl rfl rfl ⟨rfl, rfl, rfl, rfl, rfl⟩ rfl rfl rfl rfl rfl (by kernel_rfl) Tryd.func7 (by kernel_rfl)
    (of_decide_eq_true (by kernel_rfl)) (by unfold Func.isWrapper; rw [if_neg (of_decide_eq_false (by kernel_rfl))]; exact ⟨rfl, rfl⟩)
    (fun os started H enc _ => reshardEnds_lifted os started H enc)

theorem reshardEnds_card : Rows.ReshardEndsCardSaid :=
  Claim7.holds_tied_plain_at .later [] [.data, .data, .data] true (true, "29927e7986d03b1009fd59cfe82cc4006548f5923c025fc6968858f58157e54e") false
    reshardEnds_over (fun _ h => by cases h) (by kernel_rfl) (fun _ h => by cases h) reshardEnds_row_tie rfl ⟨rfl, rfl⟩ (by kernel_rfl) rfl
    (fun f fn hf hfn => by
      obtain rfl : f = 7 := Option.some.inj ((show Tryd.prog.funcNamed "marshalyard/marshalyardlaw20.ReshardEnds" = some 7 by kernel_rfl).symm.trans hf) |>.symm
      obtain rfl : fn = Tryd.f7 := (Option.some.inj (Tryd.func7.symm.trans hfn)).symm
      exact ⟨by kernel_rfl, fun j t ht => by
        rw [Tryd.params7] at ht
        have hall : ([24, 49].all fun t => Tryd.prog.wantsStandIn t == false) = true := by kernel_rfl
        have hm : t ∈ [24, 49] := List.mem_of_getElem? (by simpa using ht)
        exact (beq_iff_eq.1 ((List.all_eq_true.1 hall) t hm) : Tryd.prog.wantsStandIn t = false)⟩)
    (by kernel_rfl)
#print axioms reshardEnds_card
end Go.Proofs.YtdfijefgklhmdaaDoor.Laws
