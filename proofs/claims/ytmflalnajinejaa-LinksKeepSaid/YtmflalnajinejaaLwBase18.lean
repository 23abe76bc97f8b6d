/- Layer 18: how the arguments read. -/
import Derived.Test.YtmflalnajinejaaRows
import Derived.Test.YtmflalnajinejaaMa
import Derived.Test.YtmflalnajinejaaMe
import Derived.Test.YtmflalnajinejaaClose
import Derived.Lib.SmallJoins
import Derived.Deep.Strs
import Derived.OpenShut
namespace Go.Proofs.Ytmflalnajinejaa.Laws
open Go Go.ChangeShapes Go.WideShapes Go.ChangeAt Go.RowKit Go.Joins Go.Deep
open Go.Proofs.Ytmflalnajinejaa Go.Proofs.Ytmflalnajinejaa.T
set_option linter.unusedVariables false
set_option maxRecDepth 100000

theorem own : ownKnob Try.prog.godebug = none := by kernel_rfl
theorem laidOut : laidOutB Try.prog = true := by kernel_rfl
theorem cells40 : Try.prog.cellsOf 40 = 2 := by kernel_rfl

section
variable {H : Type} {enc : TypeId × Value → H} {W : World} {base : Nat} {v : Value} {d : DataW H} {p : List MemPlace}
/-- A row of calls. -/
theorem open_ops (hv : Value.okWide Try.prog W .any base 22 v) (h : DataW.Trod enc Try.prog W 0 (fun _ => true) true 22 v d p) (hw : ∀ n ∈ d.weights Try.prog 22, n ≤ reachBytes) :
    ∃ A l c, v = .slice A l.length c ∧ RdX W A l ∧ (∀ q ∈ l, q.way.wf ∧ Opl q.x) ∧ (l.length ≤ 140737488355328) := by
  obtain ⟨a0, len, cap, rfl⟩ := okWide_slice Try.underlying22 hv
  obtain ⟨fuel, hf⟩ := h
  exact ops_of (x := (d, p)) hf hw
/-- A letter. -/
theorem open_letter (hv : Value.okWide Try.prog W .any base 33 v) (h : DataW.Trod enc Try.prog W 0 (fun _ => true) true 33 v d p) (hw : ∀ n ∈ d.weights Try.prog 33, n ≤ reachBytes) :
    ∃ l o, v = ltV l o ∧ LtO W l o ∧ Opl l := by
  obtain ⟨cs, rfl, hsz⟩ := okWide_struct Try.underlying33 hv
  obtain ⟨fuel, hf⟩ := h
  obtain ⟨l, o, e, h1, h2⟩ := letter_of (x := (d, p)) hf hw
  have e2 : cs = (ltC l o).toArray := by
    apply Array.ext'
    rw [← e]
    simp [Value.cells]
  exact ⟨l, o, by rw [e2], h1, h2⟩
/-- Two ends. -/
theorem open_ends (hv : Value.okWide Try.prog W .any base 40 v) (h : DataW.Trod enc Try.prog W 0 (fun _ => true) true 40 v d p) :
    ∃ x y : Int, v = .agg #[.int .i64 x, .int .i64 y] ∧ En.wf (x, y) := by
  have hag : ∃ cs : Array Value, v = .agg cs := by
    simp only [Value.okWide, Try.underlying40] at hv
    obtain ⟨cs, h1, _⟩ := hv
    exact ⟨cs, h1⟩
  obtain ⟨cs, rfl⟩ := hag
  obtain ⟨fuel, hf⟩ := h
  obtain ⟨xs, m, hm, hxy, hlen, hxl, hi⟩ := DataW.trod_array Try.underlying40 hf
  rw [cells40] at hlen
  simp only [Value.cells] at hlen hi
  match xs, hxl with
  | [y0, y1], _ =>
    have g0 := hi 0 (by omega)
    have g1 := hi 1 (by omega)
    obtain ⟨cs⟩ := cs
    match cs, hlen with
    | [v0, v1], _ =>
      simp [cellsI] at g0 g1
      obtain ⟨n0, e0, _, q0⟩ := DataW.trod_int Try.underlying3 g0
      obtain ⟨n1, e1, _, q1⟩ := DataW.trod_int Try.underlying3 g1
      simp at e0 e1
      subst e0 e1
      exact ⟨n0, n1, rfl, q0, q1⟩
/-- A row of numbers. -/
theorem open_ints (hv : Value.okWide Try.prog W .any base 39 v) (h : DataW.Trod enc Try.prog W 0 (fun _ => true) true 39 v d p) :
    ∃ A l c, v = .slice A l.length c ∧ RdI W A l := by
  obtain ⟨a0, len, cap, rfl⟩ := okWide_slice Try.underlying39 hv
  obtain ⟨fuel, hf⟩ := h
  obtain ⟨A, n, c, hcs, hor⟩ := trod_rows Try.underlying39 cellsI (by omega) hf
  simp only [Value.cells, List.cons.injEq, Value.slice.injEq, and_true] at hcs
  obtain ⟨rfl, rfl, rfl⟩ := hcs
  rcases hor with rfl | ⟨b, off, rfl, D, m', hD, _⟩
  · exact ⟨a0, [], cap, rfl, .inl rfl⟩
  · have each : ∀ i, i < len → ∃ z : Int, W.cell? ⟨b, off + i, none⟩ = some (.int .i64 z) := by
      intro i hi
      obtain ⟨cs, hl, hc, hd, _⟩ := hD i hi
      obtain ⟨z, e, _, _⟩ := DataW.trod_int Try.underlying3 hd
      subst e
      exact ⟨z, by simpa using hc 0 (by omega)⟩
    obtain ⟨f, hf⟩ := choose_lt each
    exact ⟨some ⟨b, off, none⟩, (List.range len).map f, cap, by simp, .inr ⟨b, off, rfl, fun i hi => by simpa using hf i (by simpa using hi)⟩⟩
theorem w_at {ts : List TypeId} {ds : List (DataW H)} (h : (DataW.weightsEach Try.prog (ts ++ []) (ds ++ [])).all (· ≤ reachBytes) = true) {i : Nat} {t : TypeId} {x : DataW H} (h1 : ts[i]? = some t) (h2 : ds[i]? = some x) : ∀ n ∈ x.weights Try.prog t, n ≤ reachBytes := by
  intro n hn
  rw [List.append_nil, List.append_nil] at h
  have := (List.all_eq_true.1 h) n (wEach_mem h1 h2 n hn)
  simpa using this
end
end Go.Proofs.Ytmflalnajinejaa.Laws
