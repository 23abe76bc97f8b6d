/- The law SetsAny holds for every input within the bound: from its walk to the given row. -/
import Derived.Test.YtojnhgeffnjndaaRows
import Derived.Test.YtojnhgeffnjndaaSq
import Derived.Test.YtojnhgeffnjndaaLwBase8
namespace Go.Proofs.Ytojnhgeffnjndaa.Laws
open Go Go.ChangeShapes Go.WideShapes Go.ChangeAt Go.RowKit Go.Joins Go.Deep
open Go.Proofs.Ytojnhgeffnjndaa Go.Proofs.Ytojnhgeffnjndaa.T
set_option linter.unusedVariables false
set_option maxRecDepth 100000

theorem setsAny_lifted (os : Os) (started : os.Started) (H : Type) (enc : TypeId × Value → H) (F : Stop.Interp) :
    ReturnsInHanded {} Try.checked os 9 .any ((Rows.OpenSpec.upto Rows.setsAnySpec).pre6 enc Try.prog Try.f9 [] false) (((Rows.OpenSpec.upto Rows.setsAnySpec).at F).post enc Try.prog Try.f9 false true false false) :=
  lifted_upto (s := Rows.setsAnySpec) started (by kernel_rfl) Try.func9 (by kernel_rfl) rfl Try.underlying4 rfl
    (fun ds h => by match ds, h with | [d1, d2, d3], _ => rfl)
    (OpenSpec.witness (enc := enc) (C := Try.checked) (s := Rows.OpenSpec.upto Rows.setsAnySpec) (k := Rows.uptoSmall) rfl false ⟨#[], #[.slice none 0 0, .slice none 0 0, .string ByteArray.empty], []⟩ 8 (by kernel_rfl) (by kernel_rfl) (by kernel_rfl)
      (x := ([.nil, .nil, .lit (.string [])], [], [])) (by kernel_rfl) rfl (by kernel_rfl)) F
    (fun W base args ds p hval hA hbulk => by
      have hA' : DataW.TrodAll enc Try.prog W 0 (fun _ => true) true Try.f9.params.toList args.toList ds p := hA
      have hval' : ∀ (j : Nat) t v, Try.f9.params[j]? = some t → args[j]? = some v → Value.okWide Try.prog W .any base t v := hval
      rw [Try.params9] at hA' hval'
      obtain ⟨v0, vs0, d0, ds0, p0, q0, hargs, rfl, rfl, h0, r0⟩ := trodAll_cons hA'
      obtain ⟨v1, vs1, d1, ds1, p1, q1, rfl, rfl, rfl, h1, r1⟩ := trodAll_cons r0
      obtain ⟨v2, vs2, d2, ds2, p2, q2, rfl, rfl, rfl, h2, r2⟩ := trodAll_cons r1
      obtain ⟨rfl, rfl, rfl⟩ := trodAll_nil r2
      obtain rfl : args = #[v0, v1, v2] := by cases args; simp_all
      simp only [Rows.uptoBulkAll] at hbulk
      obtain ⟨A, la, ca, rfl, ha, ha2, ha3, ka⟩ := open_sl (hval' 0 22 v0 rfl rfl) h0
      obtain ⟨B, lb, cb, rfl, hb, hb2, hb3, kb⟩ := open_sl (hval' 1 22 v1 rfl rfl) h1
      obtain ⟨s, rfl⟩ := okWide_string Try.underlying9 (hval' 2 9 v2 rfl rfl)
      exact setsAny_is A B la lb s ca cb W ha hb ha2 hb2 ha3 hb3 (by omega) (by omega))

theorem setsAny_over : Rows.SetsAnyUptoSaid :=
  OpenClaim.holds_of_cond 9 Try.f9 rfl rfl rfl rfl rfl rfl rfl ⟨rfl, rfl, rfl, rfl, rfl⟩ rfl rfl rfl rfl rfl (by kernel_rfl) Try.func9 (by kernel_rfl)
    (of_decide_eq_true (by kernel_rfl)) (by unfold Func.isWrapper; rw [if_neg (of_decide_eq_false (by kernel_rfl))]; exact ⟨rfl, rfl⟩)
    (fun os started H enc _ F => setsAny_lifted os started H enc F)
#print axioms setsAny_over
end Go.Proofs.Ytojnhgeffnjndaa.Laws
