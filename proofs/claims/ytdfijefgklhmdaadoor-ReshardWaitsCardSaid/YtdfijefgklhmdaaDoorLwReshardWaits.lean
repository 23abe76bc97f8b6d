/- The law ReshardWaits holds for every input: from its walk to the given row and card. -/
import Derived.Test.YtdfijefgklhmdaaDoorCards
import Derived.Test.YtdfijefgklhmdaaDoorTie
import Derived.Test.YtdfijefgklhmdaaDoorRz
import Derived.Test.YtdfijefgklhmdaaDoorRj
import Derived.SizedLaws
import Derived.Test.YtdfijefgklhmdaaDoorRy
import Derived.Test.YtdfijefgklhmdaaDoorLwBase20
namespace Go.Proofs.YtdfijefgklhmdaaDoor.Laws
open Go Go.ChangeShapes Go.WideShapes Go.ChangeAt Go.RowKit Go.Joins
open Go.Proofs.YtdfijefgklhmdaaDoor Go.Proofs.YtdfijefgklhmdaaDoor.T
set_option linter.unusedVariables false
set_option maxRecDepth 100000

theorem reshardWaits_lifted (os : Os) (started : os.Started) (H : Type) (enc : TypeId × Value → H) :
    ReturnsInHanded {} Tryd.checked os 5 .any (fun w args => (Rows.reshardWaitsSpec.pre enc Tryd.prog Tryd.f5 [] false w args ∧ laidMetH Tryd.prog laid3 w) ∧ sizedMet enc Tryd.prog Tryd.f5 (OpenSpec.ofChange Rows.reshardWaitsSpec) false w args)
      (Rows.reshardWaitsSpec.post enc Tryd.prog Tryd.f5 false true false false) :=
  Close.lifted_laid (C := Tryd.checked) own started (by kernel_rfl) Tryd.func5 laidOut (by kernel_rfl) rfl Tryd.underlying4 rfl
    (fun ds h => by match ds, h with | [d1, d2, d3], _ => rfl)
    (ChangeSpec.witness_at (enc := enc) (C := Tryd.checked) (os := os) (X := fun w _ => laidMetH Tryd.prog laid3 w) false (laidWorld os) #[plV none 0 0 0 0, .slice none 0 0, .int .i64 0] 8 rfl (by kernel_rfl) (by kernel_rfl) (by kernel_rfl) (by kernel_rfl) (by kernel_rfl) (laidWorld_met os _))
    (fun W base args ds p hval hA hlt hsz hL => by
      have hA' : DataW.TrodAll enc Tryd.prog W 0 (fun _ => true) true Tryd.f5.params.toList args.toList ds p := hA
      have hval' : ∀ (j : Nat) t v, Tryd.f5.params[j]? = some t → args[j]? = some v → Value.okWide Tryd.prog W .any base t v := hval
      rw [Tryd.params5] at hA' hval'
      obtain ⟨v0, vs0, d0, ds0, p0, q0, hargs, rfl, rfl, h0, r0⟩ := trodAll_cons hA'
      obtain ⟨v1, vs1, d1, ds1, p1, q1, hw1, rfl, rfl, h1, r1⟩ := trodAll_cons r0
      obtain ⟨v2, vs2, d2, ds2, p2, q2, hw2, rfl, rfl, h2, r2⟩ := trodAll_cons r1
      obtain ⟨rfl, rfl, rfl⟩ := trodAll_nil r2
      obtain rfl : args = #[v0, v1, v2] := by cases args; simp_all
      obtain ⟨A0, l0, c0, B0, T0, rfl, hA0, hc0, hm0⟩ := open_plan (hval' 0 24 v0 rfl rfl) h0
      obtain ⟨A1, l1, c1, rfl, hA1, hK1⟩ := open_answers (hval' 1 39 v1 rfl rfl) h1 (fun n hn => of_decide_eq_true (List.all_eq_true.1 hsz n (DataW.weights_mem_each (j := 1) (t := 39) (by rw [Tryd.params5]; rfl) rfl n hn)))
      obtain ⟨z2, rfl, -, -, hw2⟩ := ChangeShapes.open_int Tryd.underlying3 (hval' 2 3 v2 rfl rfl) h2
      exact waits_is A0 l0 c0 B0 T0 A1 l1 c1 z2 W hA0 hc0 hm0 hA1 hK1 (tab_of hL))

theorem reshardWaits_over : Rows.reshardWaitsRow.holds Tryd.pinned (OpenSpec.ofChange Rows.reshardWaitsSpec) :=
  OpenClaim.holds_of_wide 5 Tryd.f5 rfl rfl rfl rfl rfl rfl rfl ⟨rfl, rfl, rfl, rfl, rfl⟩ rfl rfl rfl rfl rfl (by kernel_rfl) Tryd.func5 (by kernel_rfl)
    (of_decide_eq_true (by kernel_rfl)) (by unfold Func.isWrapper; rw [if_neg (of_decide_eq_false (by kernel_rfl))]; exact ⟨rfl, rfl⟩)
    (fun os started H enc _ => reshardWaits_lifted os started H enc)

theorem reshardWaits_card : Rows.ReshardWaitsCardSaid :=
  Claim7.holds_tied_plain_at .later [] [.data, .data, .data] true (true, "29927e7986d03b1009fd59cfe82cc4006548f5923c025fc6968858f58157e54e") false
    reshardWaits_over (fun _ h => by cases h) (by kernel_rfl) (fun _ h => by cases h) reshardWaits_row_tie rfl ⟨rfl, rfl⟩ (by kernel_rfl) rfl
    (fun f fn hf hfn => by
      obtain rfl : f = 5 := Option.some.inj ((show Tryd.prog.funcNamed "marshalyard/marshalyardlaw20.ReshardWaits" = some 5 by kernel_rfl).symm.trans hf) |>.symm
      obtain rfl : fn = Tryd.f5 := (Option.some.inj (Tryd.func5.symm.trans hfn)).symm
      exact ⟨by kernel_rfl, fun j t ht => by
        rw [Tryd.params5] at ht
        have hall : ([24, 39, 3].all fun t => Tryd.prog.wantsStandIn t == false) = true := by kernel_rfl
        have hm : t ∈ [24, 39, 3] := List.mem_of_getElem? (by simpa using ht)
        exact (beq_iff_eq.1 ((List.all_eq_true.1 hall) t hm) : Tryd.prog.wantsStandIn t = false)⟩)
    (by kernel_rfl)
#print axioms reshardWaits_card
end Go.Proofs.YtdfijefgklhmdaaDoor.Laws
