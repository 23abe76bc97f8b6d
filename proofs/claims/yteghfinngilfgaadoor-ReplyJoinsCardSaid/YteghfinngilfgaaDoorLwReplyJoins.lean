/- The law ReplyJoins holds for every input: from its walk to the given row and card. -/
import Derived.Test.YteghfinngilfgaaDoorCards
import Derived.Test.YteghfinngilfgaaDoorTie
import Derived.Test.YteghfinngilfgaaDoorZh
import Derived.SizedLaws
import Derived.Test.YteghfinngilfgaaDoorLwBase04
namespace Go.Proofs.YteghfinngilfgaaDoor.Laws
open Go Go.ChangeShapes Go.WideShapes Go.ChangeAt Go.RowKit Go.Joins
open Go.Proofs.YteghfinngilfgaaDoor Go.Proofs.YteghfinngilfgaaDoor.T
set_option linter.unusedVariables false
set_option maxRecDepth 100000

theorem replyJoins_lifted (os : Os) (started : os.Started) (H : Type) (enc : TypeId × Value → H) :
    ReturnsInHanded {} Tryd.checked os 9 .any (fun w args => (Rows.replyJoinsSpec.pre enc Tryd.prog Tryd.f9 [] false w args ∧ laidMetH Tryd.prog laid3 w) ∧ sizedMet enc Tryd.prog Tryd.f9 (OpenSpec.ofChange Rows.replyJoinsSpec) false w args)
      (Rows.replyJoinsSpec.post enc Tryd.prog Tryd.f9 false true false false) :=
  Close.lifted_laid (C := Tryd.checked) own started (by kernel_rfl) Tryd.func9 laidOut (by kernel_rfl) rfl Tryd.underlying4 rfl
    (fun ds h => by match ds, h with | [d1, d2], _ => rfl)
    (ChangeSpec.witness_at (enc := enc) (C := Tryd.checked) (os := os) (X := fun w _ => laidMetH Tryd.prog laid3 w) false (laidWorld os) #[tV 0 0 ByteArray.empty none 0 0, tV 0 0 ByteArray.empty none 0 0] 8 rfl (by kernel_rfl) (by kernel_rfl) (by kernel_rfl) (by kernel_rfl) (by kernel_rfl) (laidWorld_met os _))
    (fun W base args ds p hval hA hlt hsz hL => by
      have hA' : DataW.TrodAll enc Tryd.prog W 0 (fun _ => true) true Tryd.f9.params.toList args.toList ds p := hA
      have hval' : ∀ (j : Nat) t v, Tryd.f9.params[j]? = some t → args[j]? = some v → Value.okWide Tryd.prog W .any base t v := hval
      rw [Tryd.params9] at hA' hval'
      obtain ⟨v0, vs0, d0, ds0, p0, q0, hargs, rfl, rfl, h0, r0⟩ := trodAll_cons hA'
      obtain ⟨v1, vs1, d1, ds1, p1, q1, hw1, rfl, rfl, h1, r1⟩ := trodAll_cons r0
      obtain ⟨rfl, rfl, rfl⟩ := trodAll_nil r1
      obtain rfl : args = #[v0, v1] := by cases args; simp_all
      obtain ⟨x0, A0, c0, rfl, hr0, ho0⟩ := open_reply (hval' 0 24 v0 rfl rfl) h0 (fun n hn => of_decide_eq_true (List.all_eq_true.1 hsz n (DataW.weights_mem_each (j := 0) (t := 24) (by rw [Tryd.params9]; rfl) rfl n hn)))
      obtain ⟨x1, A1, c1, rfl, hr1, ho1⟩ := open_reply (hval' 1 24 v1 rfl rfl) h1 (fun n hn => of_decide_eq_true (List.all_eq_true.1 hsz n (DataW.weights_mem_each (j := 1) (t := 24) (by rw [Tryd.params9]; rfl) rfl n hn)))
      exact joins_law x0 x1 A0 A1 c0 c1 W hr0 hr1 ho0 ho1 (tab_of hL))

theorem replyJoins_over : Rows.replyJoinsRow.holds Tryd.pinned (OpenSpec.ofChange Rows.replyJoinsSpec) :=
  OpenClaim.holds_of_wide 9 Tryd.f9 rfl rfl rfl rfl rfl rfl rfl ⟨rfl, rfl, rfl, rfl, rfl⟩ rfl rfl rfl rfl rfl (by kernel_rfl) Tryd.func9 (by kernel_rfl)
    (of_decide_eq_true (by kernel_rfl)) (by unfold Func.isWrapper; rw [if_neg (of_decide_eq_false (by kernel_rfl))]; exact ⟨rfl, rfl⟩)
    (fun os started H enc _ => replyJoins_lifted os started H enc)

theorem replyJoins_card : Rows.ReplyJoinsCardSaid :=
  Claim7.holds_tied_plain_at .later [] [.data, .data, .data, .sentinel, .sentinel] true (true, "c6f514b14bd85c72b29abd1f4ab27ce21949b9b281f03ee24afcea4be3a8fb55") true
    replyJoins_over (fun _ h => by cases h) (by kernel_rfl) (fun _ h => by cases h) replyJoins_row_tie rfl ⟨rfl, rfl⟩ (by kernel_rfl) rfl
    (fun f fn hf hfn => by
      obtain rfl : f = 9 := Option.some.inj ((show Tryd.prog.funcNamed "marshalyard/marshalyardlaw04.ReplyJoins" = some 9 by kernel_rfl).symm.trans hf) |>.symm
      obtain rfl : fn = Tryd.f9 := (Option.some.inj (Tryd.func9.symm.trans hfn)).symm
      exact ⟨by kernel_rfl, fun j t ht => by
        rw [Tryd.params9] at ht
        have hall : ([24, 24].all fun t => Tryd.prog.wantsStandIn t == false) = true := by kernel_rfl
        have hm : t ∈ [24, 24] := List.mem_of_getElem? (by simpa using ht)
        exact (beq_iff_eq.1 ((List.all_eq_true.1 hall) t hm) : Tryd.prog.wantsStandIn t = false)⟩)
    (by kernel_rfl)
#print axioms replyJoins_card
end Go.Proofs.YteghfinngilfgaaDoor.Laws
