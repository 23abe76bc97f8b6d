import Derived.WalkKit
import Derived.Lib.SmallJoins
import Derived.Deep.SlicePairs
import Derived.Deep.Strs
import Derived.KernelRfl
import Derived.Test.YtdfijefgklhmdaaDoorProg
import Derived.Test.YtdfijefgklhmdaaDoorOwn
import Derived.Test.YtdfijefgklhmdaaDoorRi
namespace Go.Proofs.YtdfijefgklhmdaaDoor.T
open Go Go.RowKit Mem Own Go.ChangeShapes Go.WideShapes Go.ChangeAt Go.Joins Go.Deep
set_option maxRecDepth 100000
set_option linter.unusedVariables false
set_option linter.unusedSimpArgs false
instance : Inhabited Mv := ⟨⟨0, 0, 0⟩⟩
theorem array3 {α : Type} {cs : Array α} (h : cs.size = 3) : ∃ c0 c1 c2, cs = #[c0, c1, c2] := by
  obtain ⟨l⟩ := cs
  match l, h with
  | [c0, c1, c2], _ => exact ⟨c0, c1, c2, rfl⟩
theorem cells37 : Tryd.prog.cellsOf 37 = 3 := by kernel_rfl
theorem cells24 : Tryd.prog.cellsOf 24 = 3 := by kernel_rfl
theorem cells22 : Tryd.prog.cellsOf 22 = 1 := by kernel_rfl
theorem cells3 : Tryd.prog.cellsOf 3 = 1 := by kernel_rfl
section
variable {H : Type} {enc : TypeId × Value → H} {W : World}
/-- A list of moves, read. -/
theorem trod_moves {fuel : Nat} {cs : List Value} {x : DataW H × List MemPlace} (h : DataW.trod enc Tryd.prog W 0 (fun _ => true) true fuel 22 cs = some x) :
    ∃ A l c, cs = [.slice A l.length c] ∧ RdM W A l ∧ l.length ≤ c ∧ c ≤ maxLen := by
  rcases open_slice Tryd.underlying22 h with ⟨hcs, hx⟩ | ⟨a, len, cap, m, n, D, Pl, hcs, hb, hl, hm, hmm, hx, hcell⟩
  · exact ⟨none, [], 0, hcs, .inl rfl, Nat.zero_le _, Nat.zero_le _⟩
  · simp only [if_true] at hmm
    subst hmm
    have each : ∀ i, i < m → ∃ q : Mv, W.cell? (a.add (i * 3)) = some (.int .i64 q.s) ∧ W.cell? (a.add (i * 3 + 1)) = some (.int .i64 q.f) ∧ W.cell? (a.add (i * 3 + 2)) = some (.int .i64 q.t) := by
      intro i hi
      obtain ⟨cs', h1, h2⟩ := hcell i hi
      rw [cells37] at h1
      obtain ⟨_, hlen, hc⟩ := World.cells?_some h1
      obtain ⟨xs, k, hk, hxy, _, hxl, hf⟩ := DataW.trod_struct Tryd.underlying37 h2
      match xs, hxl, cs', hlen with
      | [y0, y1, y2], _, [v0, v1, v2], _ =>
        have g0 := hf 0 _ rfl
        have g1 := hf 1 _ rfl
        have g2 := hf 2 _ rfl
        simp [cells3] at g0 g1 g2
        obtain ⟨n0, e0, _, _⟩ := DataW.trod_int Tryd.underlying3 g0
        obtain ⟨n1, e1, _, _⟩ := DataW.trod_int Tryd.underlying3 g1
        obtain ⟨n2, e2, _, _⟩ := DataW.trod_int Tryd.underlying3 g2
        have q0 := hc 0 (by omega)
        have q1 := hc 1 (by omega)
        have q2 := hc 2 (by omega)
        rw [Deep.add_add] at q0 q1 q2
        simp at e0 e1 e2 q0 q1 q2
        subst e0 e1 e2
        exact ⟨⟨n0, n1, n2⟩, q0, q1, q2⟩
    obtain ⟨T, hT⟩ := choose_lt each
    refine ⟨some a, (List.range len).map T, m, by simpa using hcs, ?_, by simpa using hl, hm⟩
    by_cases h0 : len = 0
    · subst h0; exact .inl rfl
    · obtain ⟨b, off, spot⟩ := a
      have hc0 := (hT 0 (by omega)).1
      have hspot : spot = none := by simpa [Addr.add] using World.cell?_spot hc0
      subst hspot
      refine .inr ⟨b, off, rfl, fun i x hx => ?_⟩
      have hi : i < len := by have := (List.getElem?_eq_some_iff.1 hx).1; simpa using this
      have he : x = T i := by simp [hi] at hx; exact hx.symm
      obtain ⟨t1, t2, t3⟩ := hT i (by omega)
      rw [add_off] at t1 t2 t3
      rw [he]
      exact ⟨t1, by rw [← t2]; rfl, by rw [← t3]; rfl⟩
/-- A plan among the arguments. -/
theorem open_plan {base : Nat} {v : Value} {d : DataW H} {p : List MemPlace} (hv : Value.okWide Tryd.prog W .any base 24 v) (h : DataW.Trod enc Tryd.prog W 0 (fun _ => true) true 24 v d p) :
    ∃ A l c B T, v = plV A l.length c B T ∧ RdM W A l ∧ l.length ≤ c ∧ c ≤ maxLen := by
  obtain ⟨cs, rfl, hsz⟩ := okWide_struct Tryd.underlying24 hv
  rw [cells24] at hsz
  obtain ⟨c0, c1, c2, rfl⟩ := array3 hsz
  obtain ⟨fuel, hf⟩ := h
  obtain ⟨xs, n, _, _, hl, hlen, hfx⟩ := DataW.trod_struct Tryd.underlying24 hf
  match xs, hlen with
  | [y0, y1, y2], _ =>
    have h0 := hfx 0 _ rfl
    have h1 := hfx 1 _ rfl
    have h2 := hfx 2 _ rfl
    simp [Value.cells, cells22, cells3] at h0 h1 h2
    obtain ⟨A, l, c, e0, hA, k1, k2⟩ := trod_moves h0
    obtain ⟨B, e1, _, _⟩ := DataW.trod_int Tryd.underlying3 h1
    obtain ⟨T, e2, _, _⟩ := DataW.trod_int Tryd.underlying3 h2
    simp at e0 e1 e2
    subst e0 e1 e2
    exact ⟨A, l, c, B, T, rfl, hA, k1, k2⟩
end
end Go.Proofs.YtdfijefgklhmdaaDoor.T
