import Derived.WalkKit
import Derived.Lib.SmallJoins
import Derived.Deep.SlicePairs
import Derived.Deep.Strs
import Derived.KernelRfl
import Derived.Test.YtdpgkihecpjijaaDoorProg
import Derived.Test.YtdpgkihecpjijaaDoorOwn
import Derived.Test.YtdpgkihecpjijaaDoorWc
namespace Go.Proofs.YtdpgkihecpjijaaDoor.T
open Go Go.RowKit Mem Own Go.ChangeShapes Go.WideShapes Go.ChangeAt Go.Joins Go.Deep
set_option maxRecDepth 100000
set_option linter.unusedVariables false
section
variable {H : Type} {enc : TypeId × Value → H} {P : Program} {w : World} {base : Nat} {spare : Nat → Bool} {held : Bool}
theorem array6 {α : Type} {cs : Array α} (h : cs.size = 6) : ∃ c0 c1 c2 c3 c4 c5, cs = #[c0, c1, c2, c3, c4, c5] := by
  obtain ⟨l⟩ := cs
  match l, h with
  | [c0, c1, c2, c3, c4, c5], _ => exact ⟨c0, c1, c2, c3, c4, c5, rfl⟩
theorem trod_struct5 {t : TypeId} {f0 f1 f2 f3 f4 : Field} {fuel : Nat} {cs : List Value} {x : DataW H × List MemPlace} (ht : P.underlying t = some (.struct #[f0, f1, f2, f3, f4])) (h : DataW.trod enc P w base spare held fuel t cs = some x) :
    ∃ y0 y1 y2 y3 y4 n, cs.length = P.cellsOf t ∧ DataW.trod enc P w base spare held n f0.type ((cs.drop f0.offset).take (P.cellsOf f0.type)) = some y0 ∧
      DataW.trod enc P w base spare held n f1.type ((cs.drop f1.offset).take (P.cellsOf f1.type)) = some y1 ∧ DataW.trod enc P w base spare held n f2.type ((cs.drop f2.offset).take (P.cellsOf f2.type)) = some y2 ∧
      DataW.trod enc P w base spare held n f3.type ((cs.drop f3.offset).take (P.cellsOf f3.type)) = some y3 ∧ DataW.trod enc P w base spare held n f4.type ((cs.drop f4.offset).take (P.cellsOf f4.type)) = some y4 := by
  obtain ⟨xs, n, _, rfl, hl, hlen, hf⟩ := DataW.trod_struct ht h
  match xs, hlen with
  | [y0, y1, y2, y3, y4], _ => exact ⟨y0, y1, y2, y3, y4, n, hl, by simpa using hf 0 f0 rfl, by simpa using hf 1 f1 rfl, by simpa using hf 2 f2 rfl, by simpa using hf 3 f3 rfl, by simpa using hf 4 f4 rfl⟩
end
theorem cells27 : Tryd.prog.cellsOf 27 = 6 := by kernel_rfl
theorem cells25 : Tryd.prog.cellsOf 25 = 2 := by kernel_rfl
theorem cells22 : Tryd.prog.cellsOf 22 = 1 := by kernel_rfl
theorem cells23 : Tryd.prog.cellsOf 23 = 1 := by kernel_rfl
theorem cells9 : Tryd.prog.cellsOf 9 = 1 := by kernel_rfl
theorem cells3 : Tryd.prog.cellsOf 3 = 1 := by kernel_rfl
theorem cells44 : Tryd.prog.cellsOf 44 = 2 := by kernel_rfl
section
variable {H : Type} {enc : TypeId × Value → H} {W : World}
/-- A list of texts, read. -/
theorem trod_texts {fuel : Nat} {cs : List Value} {x : DataW H × List MemPlace} (h : DataW.trod enc Tryd.prog W 0 (fun _ => true) true fuel 23 cs = some x) :
    ∃ A l c, cs = [.slice A l.length c] ∧ Rd W A l ∧ l.length ≤ maxLen ∧ ∀ x ∈ l, x.size ≤ maxLen := by
  rcases Deep.open_strs Tryd.underlying23 Tryd.underlying9 cells9 h with ⟨hcs, hx⟩ | ⟨a, len, cap, m, Sx, hcs, _, hl, hm, hmm, hx, hcell⟩
  · exact ⟨none, [], 0, hcs, .inl rfl, Nat.zero_le _, by simp⟩
  · simp only [if_true] at hmm
    have hmm2 := hmm.symm
    subst hmm2
    refine ⟨some a, (List.range len).map Sx, cap, by simpa using hcs, ?_, by simp; omega, fun x hx => ?_⟩
    · by_cases h0 : len = 0
      · subst h0; exact .inl rfl
      · obtain ⟨b, off, spot⟩ := a
        have hc0 := (hcell 0 (by omega)).1
        have hspot : spot = none := by simpa [Addr.add] using World.cell?_spot hc0
        subst hspot
        refine .inr ⟨b, off, rfl, fun i x hx => ?_⟩
        have hi : i < len := by have := (List.getElem?_eq_some_iff.1 hx).1; simpa using this
        have := (hcell i (by omega)).1
        have he : x = Sx i := by simp [hi] at hx; exact hx.symm
        rw [he, ← this]
        by_cases hz : i = 0
        · subst hz; simp [Addr.add]
        · simp [Addr.add, hz]
    · obtain ⟨i, hi, rfl⟩ := List.mem_map.1 hx
      exact (hcell i (by simp at hi; omega)).2
/-- A list of pairs, read. -/
theorem trod_pairs {fuel : Nat} {cs : List Value} {x : DataW H × List MemPlace} (h : DataW.trod enc Tryd.prog W 0 (fun _ => true) true fuel 22 cs = some x) :
    ∃ A l c, cs = [.slice A l.length c] ∧ RdP W A l ∧ l.length ≤ maxLen ∧ ∀ x ∈ l, x.1.size ≤ maxLen ∧ x.2.size ≤ maxLen := by
  rcases Deep.open_slice_pairs Tryd.underlying22 Tryd.underlying44 cells44 rfl rfl cells9 cells9 h with ⟨hcs, hx⟩ | ⟨a, len, cap, m, n, V0, V1, D0, D1, P0, P1, hcs, _, hl, hm, hmm, hx, hcell⟩
  · exact ⟨none, [], 0, hcs, .inl rfl, Nat.zero_le _, by simp⟩
  · simp only [if_true] at hmm
    have hmm2 := hmm.symm
    subst hmm2
    have each : ∀ i, i < cap → ∃ t : ByteArray × ByteArray, V0 i = .string t.1 ∧ V1 i = .string t.2 ∧ t.1.size ≤ maxLen ∧ t.2.size ≤ maxLen := fun i hi => by
      obtain ⟨t, h1, h2, h3⟩ := DataW.trod_string Tryd.underlying9 (hcell i hi).2.2.1
      obtain ⟨u, g1, g2, g3⟩ := DataW.trod_string Tryd.underlying9 (hcell i hi).2.2.2
      exact ⟨(t, u), by simpa using h1, by simpa using g1, h3, g3⟩
    obtain ⟨T, hS⟩ := Deep.choose_lt each
    refine ⟨some a, (List.range len).map T, cap, by simpa using hcs, ?_, by simp; omega, fun x hx => ?_⟩
    · by_cases h0 : len = 0
      · subst h0; exact .inl rfl
      · obtain ⟨b, off, spot⟩ := a
        have hc0 := (hcell 0 (by omega)).1
        have hspot : spot = none := by simpa [Addr.add] using World.cell?_spot hc0
        subst hspot
        refine .inr ⟨b, off, rfl, fun i x hx => ?_⟩
        have hi : i < len := by have := (List.getElem?_eq_some_iff.1 hx).1; simpa using this
        have h1 := (hcell i (by omega)).1
        have h2 := (hcell i (by omega)).2.1
        have he : x = T i := by simp [hi] at hx; exact hx.symm
        obtain ⟨e1, e2, _⟩ := hS i (by omega)
        rw [he, ← e1, ← e2, ← h1, ← h2]
        by_cases hz : i = 0
        · subst hz; simp [Addr.add]
        · simp [Addr.add, show ¬ i * 2 = 0 by omega, Nat.add_assoc]
    · obtain ⟨i, hi, rfl⟩ := List.mem_map.1 hx
      have := hS i (by simp at hi; omega)
      exact ⟨this.2.2.1, this.2.2.2⟩
/-- A value among the arguments. -/
theorem open_val {base : Nat} {v : Value} {d : DataW H} {p : List MemPlace} (hv : Value.okWide Tryd.prog W .any base 27 v) (h : DataW.Trod enc Tryd.prog W 0 (fun _ => true) true 27 v d p) : ∃ a : Vl, VRd W v a := by
  obtain ⟨cs, rfl, hsz⟩ := okWide_struct Tryd.underlying27 hv
  rw [cells27] at hsz
  obtain ⟨c0, c1, c2, c3, c4, c5, rfl⟩ := array6 hsz
  obtain ⟨fuel, hf⟩ := h
  obtain ⟨y0, y1, y2, y3, y4, n, _, h0, h1, h2, h3, h4⟩ := trod_struct5 Tryd.underlying27 hf
  simp only [Value.cells, cells3, cells9, cells22, cells23, cells25, List.drop, List.take] at h0 h1 h2 h3 h4
  obtain ⟨k, e0, _, _⟩ := DataW.trod_int Tryd.underlying3 h0
  obtain ⟨t, e1, _, ht⟩ := DataW.trod_string Tryd.underlying9 h1
  obtain ⟨PA, ps, pc, e2, hP, np, pz⟩ := trod_pairs h2
  obtain ⟨IA, is, ic, e3, hI, ni, iz⟩ := trod_texts h3
  obtain ⟨z0, z1, m, _, _, g0, g1⟩ := trod_struct2 Tryd.underlying25 h4
  simp only [cells3, List.drop, List.take] at g0 g1
  obtain ⟨re, f0, _, _⟩ := DataW.trod_int Tryd.underlying3 g0
  obtain ⟨im, f1, _, _⟩ := DataW.trod_int Tryd.underlying3 g1
  simp at e0 e1 e2 e3 f0 f1
  subst e0 e1 e2 e3 f0 f1
  exact ⟨⟨k, t, ps, is, re, im⟩, ⟨PA, pc, IA, ic, rfl, hP, hI⟩, np, ni, ht, pz, iz⟩
end
end Go.Proofs.YtdpgkihecpjijaaDoor.T
