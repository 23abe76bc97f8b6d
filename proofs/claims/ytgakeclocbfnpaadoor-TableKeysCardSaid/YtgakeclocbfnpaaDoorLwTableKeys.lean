/- The law TableKeys holds for every input: from its walk to the given row and card. -/
import Derived.Test.YtgakeclocbfnpaaDoorCards
import Derived.Test.YtgakeclocbfnpaaDoorTie
import Derived.Test.YtgakeclocbfnpaaDoorTs
import Derived.Test.YtgakeclocbfnpaaDoorLwBase12
namespace Go.Proofs.YtgakeclocbfnpaaDoor.Laws
open Go Go.ChangeShapes Go.WideShapes Go.ChangeAt Go.RowKit Go.Joins
open Go.Proofs.YtgakeclocbfnpaaDoor Go.Proofs.YtgakeclocbfnpaaDoor.T
set_option linter.unusedVariables false
set_option maxRecDepth 100000

theorem tableKeys_lifted (os : Os) (started : os.Started) (H : Type) (enc : TypeId × Value → H) :
    ReturnsInHanded {} Tryd.checked os 6 .any (fun w args => (Rows.tableKeysSpec.pre enc Tryd.prog Tryd.f6 [] false w args ∧ laidMetH Tryd.prog laid2 w) ∧ sizedMet enc Tryd.prog Tryd.f6 (OpenSpec.ofChange Rows.tableKeysSpec) false w args)
      (Rows.tableKeysSpec.post enc Tryd.prog Tryd.f6 false true false false) :=
  Close.lifted_laid (C := Tryd.checked) own started (by kernel_rfl) Tryd.func6 laidOut (by kernel_rfl) rfl Tryd.underlying4 rfl
    (fun ds h => by match ds, h with | [d1], _ => rfl)
    (ChangeSpec.witness_at (enc := enc) (C := Tryd.checked) (os := os) (X := fun w _ => laidMetH Tryd.prog laid2 w) false (laidWorld os) #[.slice none 0 0] 8 rfl (by kernel_rfl) (by kernel_rfl) (by kernel_rfl) (by kernel_rfl) (by kernel_rfl) (laidWorld_met os _))
    (fun W base args ds p hval hA hlt hsz hL => by
      have hA' : DataW.TrodAll enc Tryd.prog W 0 (fun _ => true) true Tryd.f6.params.toList args.toList ds p := hA
      have hval' : ∀ (j : Nat) t v, Tryd.f6.params[j]? = some t → args[j]? = some v → Value.okWide Tryd.prog W .any base t v := hval
      rw [Tryd.params6] at hA' hval'
      obtain ⟨v0, vs0, d0, ds0, p0, q0, hargs, rfl, rfl, h0, r0⟩ := trodAll_cons hA'
      obtain ⟨rfl, rfl, rfl⟩ := trodAll_nil r0
      obtain rfl : args = #[v0] := by cases args; simp_all
      obtain ⟨A, l, c, rfl, ha, hl, hz⟩ := open_sl (hval' 0 31 v0 rfl rfl) h0
      exact tableKeys_is A l c W ha hl hz (u8_of hL))

theorem tableKeys_over : Rows.tableKeysRow.holds Tryd.pinned (OpenSpec.ofChange Rows.tableKeysSpec) :=
  OpenClaim.holds_of_wide 6 Tryd.f6 rfl rfl rfl rfl rfl rfl rfl ⟨rfl, rfl, rfl, rfl, rfl⟩ rfl rfl rfl rfl rfl (by kernel_rfl) Tryd.func6 (by kernel_rfl)
    (of_decide_eq_true (by kernel_rfl)) (by unfold Func.isWrapper; rw [if_neg (of_decide_eq_false (by kernel_rfl))]; exact ⟨rfl, rfl⟩)
    (fun os started H enc _ => tableKeys_lifted os started H enc)

theorem tableKeys_card : Rows.TableKeysCardSaid :=
  Claim7.holds_tied_plain_at .later [] [.data, .pinned] true (true, "6f8a32b787c5f543f767252d52195ade336b0a5ccb1a1c9d63b78ed23abae7ff") false
    tableKeys_over (fun _ h => by cases h) (by kernel_rfl) (fun _ h => by cases h) tableKeys_row_tie rfl ⟨rfl, rfl⟩ (by kernel_rfl) rfl
    (fun f fn hf hfn => by
      obtain rfl : f = 6 := Option.some.inj ((show Tryd.prog.funcNamed "marshalyard/marshalyardlaw12.TableKeys" = some 6 by kernel_rfl).symm.trans hf) |>.symm
      obtain rfl : fn = Tryd.f6 := (Option.some.inj (Tryd.func6.symm.trans hfn)).symm
      exact ⟨by kernel_rfl, fun j t ht => by
        rw [Tryd.params6] at ht
        have hall : ([31].all fun t => Tryd.prog.wantsStandIn t == false) = true := by kernel_rfl
        have hm : t ∈ [31] := List.mem_of_getElem? (by simpa using ht)
        exact (beq_iff_eq.1 ((List.all_eq_true.1 hall) t hm) : Tryd.prog.wantsStandIn t = false)⟩)
    (by kernel_rfl)
#print axioms tableKeys_card
end Go.Proofs.YtgakeclocbfnpaaDoor.Laws
