/- The law ValueBursts holds for every input: from its walk to the given row and card. -/
import Derived.Test.YtdpgkihecpjijaaDoorCards
import Derived.Test.YtdpgkihecpjijaaDoorTie
import Derived.Test.YtdpgkihecpjijaaDoorXq
import Derived.Test.YtdpgkihecpjijaaDoorWd
import Derived.Test.YtdpgkihecpjijaaDoorLwBase10
namespace Go.Proofs.YtdpgkihecpjijaaDoor.Laws
open Go Go.ChangeShapes Go.WideShapes Go.ChangeAt Go.RowKit Go.Joins
open Go.Proofs.YtdpgkihecpjijaaDoor Go.Proofs.YtdpgkihecpjijaaDoor.T
set_option linter.unusedVariables false
set_option maxRecDepth 100000

theorem valueBursts_lifted (os : Os) (started : os.Started) (H : Type) (enc : TypeId × Value → H) :
    ReturnsInHanded {} Tryd.checked os 6 .any (fun w args => (Rows.valueBurstsSpec.pre enc Tryd.prog Tryd.f6 [] false w args ∧ laidMetH Tryd.prog laid1 w) ∧ sizedMet enc Tryd.prog Tryd.f6 (OpenSpec.ofChange Rows.valueBurstsSpec) false w args)
      (Rows.valueBurstsSpec.post enc Tryd.prog Tryd.f6 false true false false) :=
  Close.lifted_laid (C := Tryd.checked) own started (by kernel_rfl) Tryd.func6 laidOut (by kernel_rfl) rfl Tryd.underlying4 rfl
    (fun ds h => by match ds, h with | [d1, d2, d3], _ => rfl)
    (ChangeSpec.witness_at (enc := enc) (C := Tryd.checked) (os := os) (X := fun w _ => laidMetH Tryd.prog laid1 w) false (laidWorld os) #[vV 0 ⟨#[]⟩ none 0 0 none 0 0 0 0, .int .i64 0, .int .u16 0] 8 rfl (by kernel_rfl) (by kernel_rfl) (by kernel_rfl) (by kernel_rfl) (by kernel_rfl) (laidWorld_met os _))
    (fun W base args ds p hval hA hlt hsz hL => by
      have hA' : DataW.TrodAll enc Tryd.prog W 0 (fun _ => true) true Tryd.f6.params.toList args.toList ds p := hA
      have hval' : ∀ (j : Nat) t v, Tryd.f6.params[j]? = some t → args[j]? = some v → Value.okWide Tryd.prog W .any base t v := hval
      rw [Tryd.params6] at hA' hval'
      obtain ⟨v0, vs0, d0, ds0, p0, q0, hargs, rfl, rfl, h0, r0⟩ := trodAll_cons hA'
      obtain ⟨v1, vs1, d1, ds1, p1, q1, hw1, rfl, rfl, h1, r1⟩ := trodAll_cons r0
      obtain ⟨v2, vs2, d2, ds2, p2, q2, hw2, rfl, rfl, h2, r2⟩ := trodAll_cons r1
      obtain ⟨rfl, rfl, rfl⟩ := trodAll_nil r2
      obtain rfl : args = #[v0, v1, v2] := by cases args; simp_all
      obtain ⟨a0, hv0⟩ := open_val (hval' 0 27 v0 rfl rfl) h0
      obtain ⟨z1, rfl, -, -, hw1⟩ := ChangeShapes.open_int Tryd.underlying3 (hval' 1 3 v1 rfl rfl) h1
      obtain ⟨c2, rfl, -, -, hw2⟩ := ChangeShapes.open_int Tryd.underlying37 (hval' 2 37 v2 rfl rfl) h2
      exact bursts_law _ a0 z1 c2 W hv0 hw1 hw2 (hv_of hL))

theorem valueBursts_over : Rows.valueBurstsRow.holds Tryd.pinned (OpenSpec.ofChange Rows.valueBurstsSpec) :=
  OpenClaim.holds_of_wide 6 Tryd.f6 rfl rfl rfl rfl rfl rfl rfl ⟨rfl, rfl, rfl, rfl, rfl⟩ rfl rfl rfl rfl rfl (by kernel_rfl) Tryd.func6 (by kernel_rfl)
    (of_decide_eq_true (by kernel_rfl)) (by unfold Func.isWrapper; rw [if_neg (of_decide_eq_false (by kernel_rfl))]; exact ⟨rfl, rfl⟩)
    (fun os started H enc _ => valueBursts_lifted os started H enc)

theorem valueBursts_card : Rows.ValueBurstsCardSaid :=
  Claim7.holds_tied_plain_at .later [] [.data] true (true, "0cad5bd9bfac0786554a5b11820d577d3e58ccb8a7e2250f91f796b2537da47b") false
    valueBursts_over (fun _ h => by cases h) (by kernel_rfl) (fun _ h => by cases h) valueBursts_row_tie rfl ⟨rfl, rfl⟩ (by kernel_rfl) rfl
    (fun f fn hf hfn => by
      obtain rfl : f = 6 := Option.some.inj ((show Tryd.prog.funcNamed "marshalyard/marshalyardlaw10.ValueBursts" = some 6 by kernel_rfl).symm.trans hf) |>.symm
      obtain rfl : fn = Tryd.f6 := (Option.some.inj (Tryd.func6.symm.trans hfn)).symm
      exact ⟨by kernel_rfl, fun j t ht => by
        rw [Tryd.params6] at ht
        have hall : ([27, 3, 37].all fun t => Tryd.prog.wantsStandIn t == false) = true := by kernel_rfl
        have hm : t ∈ [27, 3, 37] := List.mem_of_getElem? (by simpa using ht)
        exact (beq_iff_eq.1 ((List.all_eq_true.1 hall) t hm) : Tryd.prog.wantsStandIn t = false)⟩)
    (by kernel_rfl)
#print axioms valueBursts_card
end Go.Proofs.YtdpgkihecpjijaaDoor.Laws
