/- The law SetsTwo holds for every input: from its walk to the given row. -/
import Derived.Test.YtojnhgeffnjndaaRows
import Derived.Test.YtojnhgeffnjndaaSf
import Derived.Test.YtojnhgeffnjndaaLwBase8
namespace Go.Proofs.Ytojnhgeffnjndaa.Laws
open Go Go.ChangeShapes Go.WideShapes Go.ChangeAt Go.RowKit Go.Joins Go.Deep
open Go.Proofs.Ytojnhgeffnjndaa Go.Proofs.Ytojnhgeffnjndaa.T
set_option linter.unusedVariables false
set_option maxRecDepth 100000

theorem setsTwo_lifted (os : Os) (started : os.Started) (H : Type) (enc : TypeId × Value → H) :
    ReturnsInHanded {} Try.checked os 5 .any (Rows.setsTwoSpec.pre6 enc Try.prog Try.f5 [] false) (Rows.setsTwoSpec.post enc Try.prog Try.f5 false true false false) :=
  Close.lifted_bare (C := Try.checked) own started (by kernel_rfl) Try.func5 laidOut (by kernel_rfl) rfl Try.underlying4 rfl
    (fun ds h => by match ds, h with | [d1, d2], _ => rfl)
    (ChangeSpec.witness6 (enc := enc) (C := Try.checked) (os := os) false ⟨#[], #[.slice none 0 0, .slice none 0 0], []⟩ 8 (by kernel_rfl) (by kernel_rfl) (by kernel_rfl) (by kernel_rfl) (by kernel_rfl))
    (fun W base args ds p hval hA hlt hsz => by
      have hA' : DataW.TrodAll enc Try.prog W 0 (fun _ => true) true Try.f5.params.toList args.toList ds p := hA
      have hval' : ∀ (j : Nat) t v, Try.f5.params[j]? = some t → args[j]? = some v → Value.okWide Try.prog W .any base t v := hval
      rw [Try.params5] at hA' hval'
      obtain ⟨v0, vs0, d0, ds0, p0, q0, hargs, rfl, rfl, h0, r0⟩ := trodAll_cons hA'
      obtain ⟨v1, vs1, d1, ds1, p1, q1, rfl, rfl, rfl, h1, r1⟩ := trodAll_cons r0
      obtain ⟨rfl, rfl, rfl⟩ := trodAll_nil r1
      obtain rfl : args = #[v0, v1] := by cases args; simp_all
      obtain ⟨A, la, ca, rfl, ha, _, _, _⟩ := open_sl (hval' 0 22 v0 rfl rfl) h0
      obtain ⟨B, lb, cb, rfl, hb, _, _, _⟩ := open_sl (hval' 1 22 v1 rfl rfl) h1
      exact setsTwo_is A B la lb ca cb W ha hb)

theorem setsTwo_over : Rows.SetsTwoSaid :=
  OpenClaim.holds_of_wide 5 Try.f5 rfl rfl rfl rfl rfl rfl rfl ⟨rfl, rfl, rfl, rfl, rfl⟩ rfl rfl rfl rfl rfl (by kernel_rfl) Try.func5 (by kernel_rfl)
    (of_decide_eq_true (by kernel_rfl)) (by unfold Func.isWrapper; rw [if_neg (of_decide_eq_false (by kernel_rfl))]; exact ⟨rfl, rfl⟩)
    (fun os started H enc _ => setsTwo_lifted os started H enc)
#print axioms setsTwo_over
end Go.Proofs.Ytojnhgeffnjndaa.Laws
