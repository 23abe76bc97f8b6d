/- The law SetsKeep holds for every input: from its walk to the given row. -/
import Derived.Test.YtojnhgeffnjndaaRows
import Derived.Test.YtojnhgeffnjndaaSs
import Derived.Test.YtojnhgeffnjndaaLwBase8
namespace Go.Proofs.Ytojnhgeffnjndaa.Laws
open Go Go.ChangeShapes Go.WideShapes Go.ChangeAt Go.RowKit Go.Joins Go.Deep
open Go.Proofs.Ytojnhgeffnjndaa Go.Proofs.Ytojnhgeffnjndaa.T
set_option linter.unusedVariables false
set_option maxRecDepth 100000

theorem setsKeep_lifted (os : Os) (started : os.Started) (H : Type) (enc : TypeId × Value → H) :
    ReturnsInHanded {} Try.checked os 8 .any (Rows.setsKeepSpec.pre6 enc Try.prog Try.f8 [] false) (Rows.setsKeepSpec.post enc Try.prog Try.f8 false true false false) :=
  Close.lifted_bare (C := Try.checked) own started (by kernel_rfl) Try.func8 laidOut (by kernel_rfl) rfl Try.underlying4 rfl
    (fun ds h => by match ds, h with | [d1, d2, d3], _ => rfl)
    (ChangeSpec.witness6 (enc := enc) (C := Try.checked) (os := os) false ⟨#[], #[.slice none 0 0, .string ByteArray.empty, .string ByteArray.empty], []⟩ 8 (by kernel_rfl) (by kernel_rfl) (by kernel_rfl) (by kernel_rfl) (by kernel_rfl))
    (fun W base args ds p hval hA hlt hsz => by
      have hA' : DataW.TrodAll enc Try.prog W 0 (fun _ => true) true Try.f8.params.toList args.toList ds p := hA
      have hval' : ∀ (j : Nat) t v, Try.f8.params[j]? = some t → args[j]? = some v → Value.okWide Try.prog W .any base t v := hval
      rw [Try.params8] at hA' hval'
      obtain ⟨v0, vs0, d0, ds0, p0, q0, hargs, rfl, rfl, h0, r0⟩ := trodAll_cons hA'
      obtain ⟨v1, vs1, d1, ds1, p1, q1, rfl, rfl, rfl, h1, r1⟩ := trodAll_cons r0
      obtain ⟨v2, vs2, d2, ds2, p2, q2, rfl, rfl, rfl, h2, r2⟩ := trodAll_cons r1
      obtain ⟨rfl, rfl, rfl⟩ := trodAll_nil r2
      obtain rfl : args = #[v0, v1, v2] := by cases args; simp_all
      obtain ⟨A, la, ca, rfl, ha, _, _, _⟩ := open_sl (hval' 0 22 v0 rfl rfl) h0
      obtain ⟨s, rfl⟩ := okWide_string Try.underlying9 (hval' 1 9 v1 rfl rfl)
      obtain ⟨t, rfl⟩ := okWide_string Try.underlying9 (hval' 2 9 v2 rfl rfl)
      exact setsKeep_is A la s t ca W ha)

theorem setsKeep_over : Rows.SetsKeepSaid :=
  OpenClaim.holds_of_wide 8 Try.f8 rfl rfl rfl rfl rfl rfl rfl ⟨rfl, rfl, rfl, rfl, rfl⟩ rfl rfl rfl rfl rfl (by kernel_rfl) Try.func8 (by kernel_rfl)
    (of_decide_eq_true (by kernel_rfl)) (by unfold Func.isWrapper; rw [if_neg (of_decide_eq_false (by kernel_rfl))]; exact ⟨rfl, rfl⟩)
    (fun os started H enc _ => setsKeep_lifted os started H enc)
#print axioms setsKeep_over
end Go.Proofs.Ytojnhgeffnjndaa.Laws
