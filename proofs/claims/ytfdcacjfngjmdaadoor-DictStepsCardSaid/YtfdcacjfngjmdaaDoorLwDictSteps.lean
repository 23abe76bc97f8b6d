/- The law DictSteps holds for every input: from its walk to the given row and card. -/
import Derived.Test.YtfdcacjfngjmdaaDoorCards
import Derived.Test.YtfdcacjfngjmdaaDoorTie
import Derived.Test.YtfdcacjfngjmdaaDoorEd
import Derived.SizedLaws
import Derived.Test.YtfdcacjfngjmdaaDoorLwBot7
namespace Go.Proofs.YtfdcacjfngjmdaaDoor.Laws
open Go Go.ChangeShapes Go.WideShapes Go.ChangeAt Go.RowKit Go.Joins
open Go.Proofs.YtfdcacjfngjmdaaDoor Go.Proofs.YtfdcacjfngjmdaaDoor.T
set_option linter.unusedVariables false
set_option linter.unusedSimpArgs false
set_option maxRecDepth 100000

theorem dictSteps_lifted (os : Os) (started : os.Started) (H : Type) (enc : TypeId × Value → H) :
    ReturnsInHanded {} Tryd.checked os 7 .any (fun w args => (Rows.dictStepsSpec.pre enc Tryd.prog Tryd.f7 [] false w args ∧ laidMetH Tryd.prog laid1 w) ∧ sizedMet enc Tryd.prog Tryd.f7 (OpenSpec.ofChange Rows.dictStepsSpec) false w args)
      (Rows.dictStepsSpec.post enc Tryd.prog Tryd.f7 false true false false) :=
  Close.lifted_laid (C := Tryd.checked) own started (by kernel_rfl) Tryd.func7 laidOut (by kernel_rfl) rfl Tryd.underlying4 rfl
    (fun ds h => by match ds, h with | [d1, d2], _ => rfl)
    (ChangeSpec.witness_at (enc := enc) (C := Tryd.checked) (os := os) (X := fun w _ => laidMetH Tryd.prog laid1 w) false (laidWorld os) #[.slice none 0 0, .slice none 0 0] 8 rfl (by kernel_rfl) (by kernel_rfl) (by kernel_rfl) (by kernel_rfl) (by kernel_rfl) (laidWorld_met os _))
    (fun W base args ds p hval hA hlt hsz hL => by
      have hA' : DataW.TrodAll enc Tryd.prog W 0 (fun _ => true) true Tryd.f7.params.toList args.toList ds p := hA
      have hval' : ∀ (j : Nat) t v, Tryd.f7.params[j]? = some t → args[j]? = some v → Value.okWide Tryd.prog W .any base t v := hval
      rw [Tryd.params7] at hA' hval'
      obtain ⟨v0, vs0, d0, ds0, p0, q0, hargs, rfl, rfl, h0, r0⟩ := trodAll_cons hA'
      obtain ⟨v1, vs1, d1, ds1, p1, q1, hw1, rfl, rfl, h1, r1⟩ := trodAll_cons r0
      obtain ⟨rfl, rfl, rfl⟩ := trodAll_nil r1
      obtain rfl : args = #[v0, v1] := by cases args; simp_all
      obtain ⟨A0, l0, c0, rfl, ha0, hn0, hs0⟩ := open_ops (hval' 0 47 v0 rfl rfl) h0 (fun n hn => of_decide_eq_true (List.all_eq_true.1 hsz n (DataW.weights_mem_each (j := 0) (t := 47) (by rw [Tryd.params7]; rfl) rfl n hn)))
      obtain ⟨A1, l1, c1, rfl, ha1, hn1⟩ := open_nums (hval' 1 43 v1 rfl rfl) h1
      exact steps_is A0 A1 l0 l1 c0 c1 W ha0 ha1 (fun x hx => by have := hs0 x hx; omega) (by unfold maxLen; omega) hn1 (hv_of hL))

theorem dictSteps_over : Rows.dictStepsRow.holds Tryd.pinned (OpenSpec.ofChange Rows.dictStepsSpec) :=
  OpenClaim.holds_of_wide 7 Tryd.f7 rfl rfl rfl rfl rfl rfl rfl ⟨rfl, rfl, rfl, rfl, rfl⟩ rfl rfl rfl rfl rfl (by kernel_rfl) Tryd.func7 (by kernel_rfl)
    (of_decide_eq_true (by kernel_rfl)) (by unfold Func.isWrapper; rw [if_neg (of_decide_eq_false (by kernel_rfl))]; exact ⟨rfl, rfl⟩)
    (fun os started H enc _ => dictSteps_lifted os started H enc)

theorem dictSteps_card : Rows.DictStepsCardSaid :=
  Claim7.holds_tied_plain_at .later [] _ _ _ _ dictSteps_over (fun _ h => by cases h) (by kernel_rfl) (fun _ h => by cases h) dictSteps_row_tie rfl ⟨rfl, rfl⟩ (by kernel_rfl) rfl
    (fun f fn hf hfn => by
      obtain rfl : f = 7 := Option.some.inj ((show Tryd.prog.funcNamed "marshalyard/marshalyardlaw07.DictSteps" = some 7 by kernel_rfl).symm.trans hf) |>.symm
      obtain rfl : fn = Tryd.f7 := (Option.some.inj (Tryd.func7.symm.trans hfn)).symm
      exact ⟨by kernel_rfl, fun j t ht => by
        rw [Tryd.params7] at ht
        have hall : ([47, 43].all fun t => Tryd.prog.wantsStandIn t == false) = true := by kernel_rfl
        have hm : t ∈ [47, 43] := List.mem_of_getElem? (by simpa using ht)
        exact (beq_iff_eq.1 ((List.all_eq_true.1 hall) t hm) : Tryd.prog.wantsStandIn t = false)⟩)
    (by kernel_rfl)
#print axioms dictSteps_card
end Go.Proofs.YtfdcacjfngjmdaaDoor.Laws
