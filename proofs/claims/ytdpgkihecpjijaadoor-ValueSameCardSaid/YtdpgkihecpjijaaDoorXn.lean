import Derived.WalkKit
import Derived.Lib.SmallJoins
import Derived.Deep.SlicePairs
import Derived.Deep.Strs
import Derived.KernelRfl
import Derived.Test.YtdpgkihecpjijaaDoorProg
import Derived.Test.YtdpgkihecpjijaaDoorOwn
import Derived.Test.YtdpgkihecpjijaaDoorWc
import Derived.Test.YtdpgkihecpjijaaDoorWd
import Derived.Test.YtdpgkihecpjijaaDoorXl
namespace Go.Proofs.YtdpgkihecpjijaaDoor.T
open Go Go.RowKit Mem Own Go.ChangeShapes Go.WideShapes Go.ChangeAt Go.Joins Go.Deep
set_option maxRecDepth 100000
set_option linter.unusedVariables false
set_option linter.unusedSimpArgs false
theorem bytes9 : Tryd.prog.bytesOf 9 = 16 := by kernel_rfl
theorem bytes44 : Tryd.prog.bytesOf 44 = 32 := by kernel_rfl
section
variable {H : Type} {enc : TypeId × Value → H} {W : World}
theorem wAll_mem {P : Program} {e : TypeId} : ∀ {l : List (DataW H)} {d : DataW H}, d ∈ l → ∀ n ∈ d.weights P e, n ∈ DataW.weightsAll P e l
  | c :: l, d, hd, n, hn => by
    unfold DataW.weightsAll
    rcases List.mem_cons.1 hd with rfl | hd
    · exact List.mem_append_left _ hn
    · exact List.mem_append_right _ (wAll_mem hd n hn)
theorem slice_w {t e : TypeId} {elems spare : List (DataW H)} (ht : Tryd.prog.underlying t = some (.slice e)) (hw : ∀ n ∈ (DataW.slice elems spare).weights Tryd.prog t, n ≤ reachBytes) :
    elems.length * Tryd.prog.bytesOf e ≤ reachBytes ∧ ∀ d ∈ elems, ∀ n ∈ d.weights Tryd.prog e, n ≤ reachBytes := by
  have e1 : (DataW.slice elems spare).weights Tryd.prog t = (elems.length + spare.length) * Tryd.prog.bytesOf e :: (DataW.weightsAll Tryd.prog e elems ++ DataW.weightsAll Tryd.prog e spare) := by
    conv => lhs; unfold DataW.weights
    rw [ht]
  rw [e1] at hw
  refine ⟨Nat.le_trans (Nat.mul_le_mul_right _ (Nat.le_add_right _ _)) (hw _ (List.mem_cons_self ..)), fun d hd n hn => hw n (List.mem_cons_of_mem _ (List.mem_append_left _ (wAll_mem hd n hn)))⟩
theorem lit_w {t : TypeId} {s : ByteArray} (hw : ∀ n ∈ (DataW.lit (.string s.data.toList) : DataW H).weights Tryd.prog t, n ≤ reachBytes) : s.size ≤ reachBytes := by
  have := hw s.data.toList.length (by unfold DataW.weights; simp)
  simpa using this
/-- The sizes of a list of texts. -/
theorem texts_w {fuel : Nat} {A : Option Addr} {l : List ByteArray} {c : Nat} {x : DataW H × List MemPlace} (h : DataW.trod enc Tryd.prog W 0 (fun _ => true) true fuel 23 [.slice A l.length c] = some x) (hr : Rd W A l) (hw : ∀ n ∈ x.1.weights Tryd.prog 23, n ≤ reachBytes) :
    l.length * 16 ≤ reachBytes ∧ ∀ y ∈ l, y.size ≤ reachBytes := by
  rcases Deep.open_strs Tryd.underlying23 Tryd.underlying9 cells9 h with ⟨hcs, hx⟩ | ⟨a, len, cap, m, Sx, hcs, _, hl, hm, hmm, hx, hcell⟩
  · simp at hcs
    obtain rfl := List.eq_nil_of_length_eq_zero (show l.length = 0 by simp [hcs.2])
    simp
  · simp only [if_true] at hmm
    subst hmm
    simp only [List.cons.injEq, Value.slice.injEq, and_true] at hcs
    obtain ⟨rfl, rfl, rfl⟩ := hcs
    subst hx
    obtain ⟨h1, h2⟩ := slice_w Tryd.underlying23 hw
    rw [bytes9] at h1
    refine ⟨by simpa using h1, fun y hy => ?_⟩
    obtain ⟨i, hi, rfl⟩ := List.mem_iff_getElem.1 hy
    rcases hr with rfl | ⟨b, off, e, hc⟩
    · simp at hi
    · cases e
      have g1 := hc i l[i] (List.getElem?_eq_getElem hi)
      have g2 := (hcell i (by omega)).1
      rw [add_off, g1] at g2
      injection g2 with g2
      injection g2 with g2
      rw [g2]
      exact lit_w (h2 _ (List.mem_map.2 ⟨i, List.mem_range.2 hi, rfl⟩))
theorem agg2_w {d0 d1 : DataW H} (hw : ∀ n ∈ (DataW.agg [d0, d1]).weights Tryd.prog 44, n ≤ reachBytes) : (∀ n ∈ d0.weights Tryd.prog 9, n ≤ reachBytes) ∧ ∀ n ∈ d1.weights Tryd.prog 9, n ≤ reachBytes := by
  have e1 : (DataW.agg [d0, d1]).weights Tryd.prog 44 = d0.weights Tryd.prog 9 ++ (d1.weights Tryd.prog 9 ++ []) := by
    conv => lhs; unfold DataW.weights
    rw [Tryd.underlying44]
    rfl
  rw [e1] at hw
  exact ⟨fun n hn => hw n (List.mem_append_left _ hn), fun n hn => hw n (List.mem_append_right _ (List.mem_append_left _ hn))⟩
theorem pairs_w {fuel : Nat} {A : Option Addr} {l : List (ByteArray × ByteArray)} {c : Nat} {x : DataW H × List MemPlace} (h : DataW.trod enc Tryd.prog W 0 (fun _ => true) true fuel 22 [.slice A l.length c] = some x) (hr : RdP W A l) (hw : ∀ n ∈ x.1.weights Tryd.prog 22, n ≤ reachBytes) :
    l.length * 32 ≤ reachBytes ∧ ∀ y ∈ l, y.1.size ≤ reachBytes ∧ y.2.size ≤ reachBytes := by
  rcases Deep.open_slice_pairs Tryd.underlying22 Tryd.underlying44 cells44 rfl rfl cells9 cells9 h with ⟨hcs, hx⟩ | ⟨a, len, cap, m, n, V0, V1, D0, D1, P0, P1, hcs, _, hl, hm, hmm, hx, hcell⟩
  · simp at hcs
    obtain rfl := List.eq_nil_of_length_eq_zero (show l.length = 0 by simp [hcs.2])
    simp
  · simp only [if_true] at hmm
    subst hmm
    simp only [List.cons.injEq, Value.slice.injEq, and_true] at hcs
    obtain ⟨rfl, rfl, rfl⟩ := hcs
    subst hx
    obtain ⟨h1, h2⟩ := slice_w Tryd.underlying22 hw
    rw [bytes44] at h1
    refine ⟨by simpa using h1, fun y hy => ?_⟩
    obtain ⟨i, hi, rfl⟩ := List.mem_iff_getElem.1 hy
    rcases hr with rfl | ⟨b, off, e, hc⟩
    · simp at hi
    · cases e
      obtain ⟨g1, g1'⟩ := hc i l[i] (List.getElem?_eq_getElem hi)
      obtain ⟨g2, g2', g3, g4⟩ := hcell i (by omega)
      rw [add_off, g1] at g2
      rw [add_off, show off + (i * 2 + 1) = off + i * 2 + 1 by omega, g1'] at g2'
      obtain ⟨t, t1, t2, _⟩ := DataW.trod_string Tryd.underlying9 g3
      obtain ⟨u, u1, u2, _⟩ := DataW.trod_string Tryd.underlying9 g4
      obtain ⟨w0, w1⟩ := agg2_w (h2 _ (List.mem_map.2 ⟨i, List.mem_range.2 hi, rfl⟩))
      injection t2 with t2 _
      injection u2 with u2 _
      rw [t2] at w0
      rw [u2] at w1
      simp only [List.cons.injEq, and_true] at t1 u1
      rw [t1] at g2
      rw [u1] at g2'
      injection g2 with g2; injection g2 with g2
      injection g2' with g2'; injection g2' with g2'
      rw [g2, g2']
      exact ⟨lit_w w0, lit_w w1⟩
/-- A value among the arguments, and its sizes. -/
theorem open_val_sz {base : Nat} {v : Value} {d : DataW H} {p : List MemPlace} (hv : Value.okWide Tryd.prog W .any base 27 v) (h : DataW.Trod enc Tryd.prog W 0 (fun _ => true) true 27 v d p) (hw : ∀ n ∈ d.weights Tryd.prog 27, n ≤ reachBytes) : ∃ a : Vl, VRd W v a ∧ SzV a := by
  obtain ⟨a, ha⟩ := open_val hv h
  refine ⟨a, ha, ?_⟩
  obtain ⟨⟨PA, pc, IA, ic, rfl, hP, hI⟩, -⟩ := ha
  obtain ⟨fuel, hf⟩ := h
  obtain ⟨xs, n, _, hd, hl, hlen, hfx⟩ := DataW.trod_struct Tryd.underlying27 hf
  injection hd with hd _
  match xs, hlen with
  | [y0, y1, y2, y3, y4], _ =>
    have h2 := hfx 2 _ rfl
    have h3 := hfx 3 _ rfl
    simp only [vV, Value.cells, cells22, cells23, List.drop, List.take] at h2 h3
    subst hd
    have e1 : (DataW.agg ([y0, y1, y2, y3, y4].map (·.1))).weights Tryd.prog 27 = y0.1.weights Tryd.prog 3 ++ (y1.1.weights Tryd.prog 9 ++ (y2.1.weights Tryd.prog 22 ++ (y3.1.weights Tryd.prog 23 ++ (y4.1.weights Tryd.prog 25 ++ [])))) := by
      conv => lhs; unfold DataW.weights
      rw [Tryd.underlying27]
      rfl
    rw [e1] at hw
    have w2 : ∀ n ∈ y2.1.weights Tryd.prog 22, n ≤ reachBytes := fun n hn => hw n (List.mem_append_right _ (List.mem_append_right _ (List.mem_append_left _ hn)))
    have w3 : ∀ n ∈ y3.1.weights Tryd.prog 23, n ≤ reachBytes := fun n hn => hw n (List.mem_append_right _ (List.mem_append_right _ (List.mem_append_right _ (List.mem_append_left _ hn))))
    obtain ⟨p1, p2⟩ := pairs_w (by simpa [cells22] using h2) hP w2
    obtain ⟨i1, i2⟩ := texts_w (by simpa [cells23] using h3) hI w3
    have hrb : reachBytes ≤ 140737488355328 := by decide
    exact ⟨by omega, by omega, fun p hp => by have := p2 p hp; omega, fun x hx => by have := i2 x hx; omega⟩
end
end Go.Proofs.YtdpgkihecpjijaaDoor.T
