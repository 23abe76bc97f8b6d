/- The law LinksKeep holds for every input: from its walk to the given row. -/
import Derived.Test.YtmflalnajinejaaRows
import Derived.Test.YtmflalnajinejaaNj
import Derived.Test.YtmflalnajinejaaLwBase18
namespace Go.Proofs.Ytmflalnajinejaa.Laws
open Go Go.ChangeShapes Go.WideShapes Go.ChangeAt Go.RowKit Go.Joins Go.Deep
open Go.Proofs.Ytmflalnajinejaa Go.Proofs.Ytmflalnajinejaa.T
set_option linter.unusedVariables false
set_option maxRecDepth 100000

theorem linksKeep_lifted (os : Os) (started : os.Started) (H : Type) (enc : TypeId × Value → H) :
    ReturnsInHanded {} Try.checked os 5 .any (Rows.linksKeepSpec.pre6 enc Try.prog Try.f5 [] false) (Rows.linksKeepSpec.post enc Try.prog Try.f5 false true false false) :=
  Close.lifted_bare (C := Try.checked) own started (by kernel_rfl) Try.func5 laidOut (by kernel_rfl) rfl Try.underlying4 rfl
    (fun ds h => by match ds, h with | [d1], _ => rfl)
    (ChangeSpec.witness6 (enc := enc) (C := Try.checked) (os := os) false ⟨#[], #[ltV Lt.zero ⟨none, 0, none, 0⟩], []⟩ 8 (by kernel_rfl) (by kernel_rfl) (by kernel_rfl) (by kernel_rfl) (by kernel_rfl))
    (fun W base args ds p hval hA hlt hsz => by
      have hA' : DataW.TrodAll enc Try.prog W 0 (fun _ => true) true Try.f5.params.toList args.toList ds p := hA
      have hval' : ∀ (j : Nat) t v, Try.f5.params[j]? = some t → args[j]? = some v → Value.okWide Try.prog W .any base t v := hval
      have hsz : (DataW.weightsEach Try.prog (Try.f5.params.toList ++ []) (ds ++ [])).all (· ≤ reachBytes) = true := hsz
      rw [Try.params5] at hA' hval' hsz
      obtain ⟨v0, vs0, d0, ds0, p0, q0, hargs, rfl, rfl, h0, r0⟩ := trodAll_cons hA'
      obtain ⟨rfl, rfl, rfl⟩ := trodAll_nil r0
      obtain rfl : args = #[v0] := by cases args; simp_all
      obtain ⟨l0, o0, rfl, ha0, hq0⟩ := open_letter (hval' 0 33 v0 rfl rfl) h0 (w_at hsz (i := 0) rfl rfl)
      exact keep_is l0 o0 W ha0 hq0)

theorem linksKeep_over : Rows.LinksKeepSaid :=
  OpenClaim.holds_of_wide 5 Try.f5 rfl rfl rfl rfl rfl rfl rfl ⟨rfl, rfl, rfl, rfl, rfl⟩ rfl rfl rfl rfl rfl (by kernel_rfl) Try.func5 (by kernel_rfl)
    (of_decide_eq_true (by kernel_rfl)) (by unfold Func.isWrapper; rw [if_neg (of_decide_eq_false (by kernel_rfl))]; exact ⟨rfl, rfl⟩)
    (fun os started H enc _ => linksKeep_lifted os started H enc)
#print axioms linksKeep_over
end Go.Proofs.Ytmflalnajinejaa.Laws
