/- The law TableLetters holds for every input: from its walk to the given row and card. -/
import Derived.Test.YtgakeclocbfnpaaDoorCards
import Derived.Test.YtgakeclocbfnpaaDoorTie
import Derived.Test.YtgakeclocbfnpaaDoorTu
import Derived.Test.YtgakeclocbfnpaaDoorLwBase12
namespace Go.Proofs.YtgakeclocbfnpaaDoor.Laws
open Go Go.ChangeShapes Go.WideShapes Go.ChangeAt Go.RowKit Go.Joins
open Go.Proofs.YtgakeclocbfnpaaDoor Go.Proofs.YtgakeclocbfnpaaDoor.T
set_option linter.unusedVariables false
set_option maxRecDepth 100000

theorem tableLetters_lifted (os : Os) (started : os.Started) (H : Type) (enc : TypeId × Value → H) :
    ReturnsInHanded {} Tryd.checked os 7 .any (fun w args => (Rows.tableLettersSpec.pre enc Tryd.prog Tryd.f7 [] false w args ∧ laidMetH Tryd.prog laid2 w) ∧ sizedMet enc Tryd.prog Tryd.f7 (OpenSpec.ofChange Rows.tableLettersSpec) false w args)
      (Rows.tableLettersSpec.post enc Tryd.prog Tryd.f7 false true false false) :=
  Close.lifted_laid (C := Tryd.checked) own started (by kernel_rfl) Tryd.func7 laidOut (by kernel_rfl) rfl Tryd.underlying4 rfl
    (fun ds h => by match ds, h with | [d1, d2], _ => rfl)
    (ChangeSpec.witness_at (enc := enc) (C := Tryd.checked) (os := os) (X := fun w _ => laidMetH Tryd.prog laid2 w) false (laidWorld os) #[.string ByteArray.empty, .slice none 0 0] 8 rfl (by kernel_rfl) (by kernel_rfl) (by kernel_rfl) (by kernel_rfl) (by kernel_rfl) (laidWorld_met os _))
    (fun W base args ds p hval hA hlt hsz hL => by
      have hA' : DataW.TrodAll enc Tryd.prog W 0 (fun _ => true) true Tryd.f7.params.toList args.toList ds p := hA
      have hval' : ∀ (j : Nat) t v, Tryd.f7.params[j]? = some t → args[j]? = some v → Value.okWide Tryd.prog W .any base t v := hval
      rw [Tryd.params7] at hA' hval'
      obtain ⟨v0, vs0, d0, ds0, p0, q0, hargs, rfl, rfl, h0, r0⟩ := trodAll_cons hA'
      obtain ⟨v1, vs1, d1, ds1, p1, q1, rfl, rfl, rfl, h1, r1⟩ := trodAll_cons r0
      obtain ⟨rfl, rfl, rfl⟩ := trodAll_nil r1
      obtain rfl : args = #[v0, v1] := by cases args; simp_all
      obtain ⟨s, rfl, hs⟩ := open_str (hval' 0 9 v0 rfl rfl) h0
      obtain ⟨A, n, c, T, rfl, hn, ht⟩ := open_bl (hval' 1 38 v1 rfl rfl) h1
      exact tableLetters_is s A n c T W hs hn ht (u8_of hL))

theorem tableLetters_over : Rows.tableLettersRow.holds Tryd.pinned (OpenSpec.ofChange Rows.tableLettersSpec) :=
  OpenClaim.holds_of_wide 7 Tryd.f7 rfl rfl rfl rfl rfl rfl rfl ⟨rfl, rfl, rfl, rfl, rfl⟩ rfl rfl rfl rfl rfl (by kernel_rfl) Tryd.func7 (by kernel_rfl)
    (of_decide_eq_true (by kernel_rfl)) (by unfold Func.isWrapper; rw [if_neg (of_decide_eq_false (by kernel_rfl))]; exact ⟨rfl, rfl⟩)
    (fun os started H enc _ => tableLetters_lifted os started H enc)

theorem tableLetters_card : Rows.TableLettersCardSaid :=
  Claim7.holds_tied_plain_at .later [] [.data, .pinned] true (true, "6f8a32b787c5f543f767252d52195ade336b0a5ccb1a1c9d63b78ed23abae7ff") false
    tableLetters_over (fun _ h => by cases h) (by kernel_rfl) (fun _ h => by cases h) tableLetters_row_tie rfl ⟨rfl, rfl⟩ (by kernel_rfl) rfl
    (fun f fn hf hfn => by
      obtain rfl : f = 7 := Option.some.inj ((show Tryd.prog.funcNamed "marshalyard/marshalyardlaw12.TableLetters" = some 7 by kernel_rfl).symm.trans hf) |>.symm
      obtain rfl : fn = Tryd.f7 := (Option.some.inj (Tryd.func7.symm.trans hfn)).symm
      exact ⟨by kernel_rfl, fun j t ht => by
        rw [Tryd.params7] at ht
        have hall : ([9, 38].all fun t => Tryd.prog.wantsStandIn t == false) = true := by kernel_rfl
        have hm : t ∈ [9, 38] := List.mem_of_getElem? (by simpa using ht)
        exact (beq_iff_eq.1 ((List.all_eq_true.1 hall) t hm) : Tryd.prog.wantsStandIn t = false)⟩)
    (by kernel_rfl)
#print axioms tableLetters_card
end Go.Proofs.YtgakeclocbfnpaaDoor.Laws
