/- The law LinksOrder holds for every input: from its walk to the given row. -/
import Derived.Test.YtmflalnajinejaaRows
import Derived.Test.YtmflalnajinejaaMe
import Derived.Test.YtmflalnajinejaaLwBase18
namespace Go.Proofs.Ytmflalnajinejaa.Laws
open Go Go.ChangeShapes Go.WideShapes Go.ChangeAt Go.RowKit Go.Joins Go.Deep
open Go.Proofs.Ytmflalnajinejaa Go.Proofs.Ytmflalnajinejaa.T
set_option linter.unusedVariables false
set_option maxRecDepth 100000

theorem linksOrder_lifted (os : Os) (started : os.Started) (H : Type) (enc : TypeId × Value → H) :
    ReturnsInHanded {} Try.checked os 4 .any (Rows.linksOrderSpec.pre6 enc Try.prog Try.f4 [] false) (Rows.linksOrderSpec.post enc Try.prog Try.f4 false true false false) :=
  Close.lifted_bare (C := Try.checked) own started (by kernel_rfl) Try.func4 laidOut (by kernel_rfl) rfl Try.underlying4 rfl
    (fun ds h => by match ds, h with | [d1, d2], _ => rfl)
    (ChangeSpec.witness6 (enc := enc) (C := Try.checked) (os := os) false ⟨#[], #[.slice none 0 0, .agg #[.int .i64 0, .int .i64 0]], []⟩ 8 (by kernel_rfl) (by kernel_rfl) (by kernel_rfl) (by kernel_rfl) (by kernel_rfl))
    (fun W base args ds p hval hA hlt hsz => by
      have hA' : DataW.TrodAll enc Try.prog W 0 (fun _ => true) true Try.f4.params.toList args.toList ds p := hA
      have hval' : ∀ (j : Nat) t v, Try.f4.params[j]? = some t → args[j]? = some v → Value.okWide Try.prog W .any base t v := hval
      have hsz : (DataW.weightsEach Try.prog (Try.f4.params.toList ++ []) (ds ++ [])).all (· ≤ reachBytes) = true := hsz
      rw [Try.params4] at hA' hval' hsz
      obtain ⟨v0, vs0, d0, ds0, p0, q0, hargs, rfl, rfl, h0, r0⟩ := trodAll_cons hA'
      obtain ⟨v1, vs1, d1, ds1, p1, q1, rfl, rfl, rfl, h1, r1⟩ := trodAll_cons r0
      obtain ⟨rfl, rfl, rfl⟩ := trodAll_nil r1
      obtain rfl : args = #[v0, v1] := by cases args; simp_all
      obtain ⟨A0, l0, c0, rfl, ha0⟩ := open_ints (hval' 0 39 v0 rfl rfl) h0
      obtain ⟨x1, y1, rfl, hq1⟩ := open_ends (hval' 1 40 v1 rfl rfl) h1
      exact order_is l0 A0 _ c0 x1 y1 W rfl ha0 hq1)

theorem linksOrder_over : Rows.LinksOrderSaid :=
  OpenClaim.holds_of_wide 4 Try.f4 rfl rfl rfl rfl rfl rfl rfl ⟨rfl, rfl, rfl, rfl, rfl⟩ rfl rfl rfl rfl rfl (by kernel_rfl) Try.func4 (by kernel_rfl)
    (of_decide_eq_true (by kernel_rfl)) (by unfold Func.isWrapper; rw [if_neg (of_decide_eq_false (by kernel_rfl))]; exact ⟨rfl, rfl⟩)
    (fun os started H enc _ => linksOrder_lifted os started H enc)
#print axioms linksOrder_over
end Go.Proofs.Ytmflalnajinejaa.Laws
