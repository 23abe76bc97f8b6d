/- The law ReplyBack holds for every input: from its walk to the given row and card. -/
import Derived.Test.YteghfinngilfgaaDoorCards
import Derived.Test.YteghfinngilfgaaDoorTie
import Derived.Test.YteghfinngilfgaaDoorZv
import Derived.Test.YteghfinngilfgaaDoorLwErr04
import Derived.SizedLaws
import Derived.Test.YteghfinngilfgaaDoorLwBase04
namespace Go.Proofs.YteghfinngilfgaaDoor.Laws
open Go Go.ChangeShapes Go.WideShapes Go.ChangeAt Go.RowKit Go.Joins
open Go.Proofs.YteghfinngilfgaaDoor Go.Proofs.YteghfinngilfgaaDoor.T
set_option linter.unusedVariables false
set_option linter.unusedSimpArgs false
set_option maxRecDepth 100000

theorem replyBack_lifted (os : Os) (started : os.Started) (H : Type) (enc : TypeId × Value → H) :
    ReturnsInHanded {} Tryd.checked os 5 .any (fun w args => (Rows.replyBackSpec.pre enc Tryd.prog Tryd.f5 [] false w args ∧ laidMetH Tryd.prog laid3 w) ∧ sizedMet enc Tryd.prog Tryd.f5 (OpenSpec.ofChange Rows.replyBackSpec) false w args)
      (Rows.replyBackSpec.post enc Tryd.prog Tryd.f5 false true false false) :=
  Close.lifted_laid (C := Tryd.checked) own started (by kernel_rfl) Tryd.func5 laidOut (by kernel_rfl) rfl Tryd.underlying4 rfl
    (fun ds h => by match ds, h with | [d1, d2], _ => rfl)
    (ChangeSpec.witness_at (enc := enc) (C := Tryd.checked) (os := os) (X := fun w _ => laidMetH Tryd.prog laid3 w) false (laidWorld os) #[tV 0 0 ByteArray.empty none 0 0, .string ByteArray.empty] 8 rfl (by kernel_rfl) (by kernel_rfl) (by kernel_rfl) (by kernel_rfl) (by kernel_rfl) (laidWorld_met os _))
    (fun W base args ds p hval hA hlt hsz hL => by
      have hA' : DataW.TrodAll enc Tryd.prog W 0 (fun _ => true) true Tryd.f5.params.toList args.toList ds p := hA
      have hval' : ∀ (j : Nat) t v, Tryd.f5.params[j]? = some t → args[j]? = some v → Value.okWide Tryd.prog W .any base t v := hval
      rw [Tryd.params5] at hA' hval'
      obtain ⟨v0, vs0, d0, ds0, p0, q0, hargs, rfl, rfl, h0, r0⟩ := trodAll_cons hA'
      obtain ⟨v1, vs1, d1, ds1, p1, q1, hw1, rfl, rfl, h1, r1⟩ := trodAll_cons r0
      obtain ⟨rfl, rfl, rfl⟩ := trodAll_nil r1
      obtain rfl : args = #[v0, v1] := by cases args; simp_all
      obtain ⟨x0, A0, c0, rfl, hr0, ho0⟩ := open_reply (hval' 0 24 v0 rfl rfl) h0 (fun n hn => of_decide_eq_true (List.all_eq_true.1 hsz n (DataW.weights_mem_each (j := 0) (t := 24) (by rw [Tryd.params5]; rfl) rfl n hn)))
      obtain ⟨s1, rfl, hs1⟩ := open_txt (hval' 1 9 v1 rfl rfl) h1 (fun n hn => of_decide_eq_true (List.all_eq_true.1 hsz n (DataW.weights_mem_each (j := 1) (t := 9) (by rw [Tryd.params5]; rfl) rfl n hn)))
      exact back_law x0 A0 c0 s1 W hr0 ho0 (Nat.le_trans hs1 (by decide)) (tab_of hL) (errV_of hL))

theorem replyBack_over : Rows.replyBackRow.holds Tryd.pinned (OpenSpec.ofChange Rows.replyBackSpec) :=
  OpenClaim.holds_of_wide 5 Tryd.f5 rfl rfl rfl rfl rfl rfl rfl ⟨rfl, rfl, rfl, rfl, rfl⟩ rfl rfl rfl rfl rfl (by kernel_rfl) Tryd.func5 (by kernel_rfl)
    (of_decide_eq_true (by kernel_rfl)) (by unfold Func.isWrapper; rw [if_neg (of_decide_eq_false (by kernel_rfl))]; exact ⟨rfl, rfl⟩)
    (fun os started H enc _ => replyBack_lifted os started H enc)

theorem replyBack_card : Rows.ReplyBackCardSaid :=
  Claim7.holds_tied_plain_at .later [] [.data, .data, .data, .sentinel, .sentinel] true (true, "c6f514b14bd85c72b29abd1f4ab27ce21949b9b281f03ee24afcea4be3a8fb55") true
    replyBack_over (fun _ h => by cases h) (by kernel_rfl) (fun _ h => by cases h) replyBack_row_tie rfl ⟨rfl, rfl⟩ (by kernel_rfl) rfl
    (fun f fn hf hfn => by
      obtain rfl : f = 5 := Option.some.inj ((show Tryd.prog.funcNamed "marshalyard/marshalyardlaw04.ReplyBack" = some 5 by kernel_rfl).symm.trans hf) |>.symm
      obtain rfl : fn = Tryd.f5 := (Option.some.inj (Tryd.func5.symm.trans hfn)).symm
      exact ⟨by kernel_rfl, fun j t ht => by
        rw [Tryd.params5] at ht
        have hall : ([24, 9].all fun t => Tryd.prog.wantsStandIn t == false) = true := by kernel_rfl
        have hm : t ∈ [24, 9] := List.mem_of_getElem? (by simpa using ht)
        exact (beq_iff_eq.1 ((List.all_eq_true.1 hall) t hm) : Tryd.prog.wantsStandIn t = false)⟩)
    (by kernel_rfl)
#print axioms replyBack_card
end Go.Proofs.YteghfinngilfgaaDoor.Laws
