/- Layer 7: how a script of calls among the arguments reads. -/
import Derived.Test.YtfdcacjfngjmdaaDoorLwBat7
import Derived.Test.YtfdcacjfngjmdaaDoorEd
namespace Go.Proofs.YtfdcacjfngjmdaaDoor.Laws
open Go Go.ChangeShapes Go.WideShapes Go.ChangeAt Go.RowKit Go.Joins Go.Lib Go.Deep
open Go.Proofs Go.Proofs.YtfdcacjfngjmdaaDoor Go.Proofs.YtfdcacjfngjmdaaDoor.T Go.Proofs.YtfdcacjfngjmdaaDoor.Own
set_option linter.unusedVariables false
set_option linter.unusedSimpArgs false
set_option maxRecDepth 100000
theorem cells56 : Tryd.prog.cellsOf 56 = 3 := by kernel_rfl
theorem bytes56 : Tryd.prog.bytesOf 56 = 32 := by kernel_rfl
section
variable {H : Type} {enc : TypeId × Value → H} {W : World}
/-- The cells of one call. -/
theorem trod_op {fuel : Nat} {cs : List Value} {x : DataW H × List MemPlace} (h : DataW.trod enc Tryd.prog W 0 (fun _ => true) true fuel 56 cs = some x) :
    ∃ k v n, cs = [.int .i64 k, .int .i64 v, .string n] ∧ ((∀ n ∈ x.1.weights Tryd.prog 56, n ≤ reachBytes) → n.size ≤ reachBytes) := by
  obtain ⟨xs, k, hk, hxy, hlen, hxl, hf⟩ := DataW.trod_struct Tryd.underlying56 h
  rw [cells56] at hlen
  match xs, hxl, cs, hlen with
  | [y0, y1, y2], _, [v0, v1, v2], _ =>
    have g0 := hf 0 _ rfl
    have g1 := hf 1 _ rfl
    have g2 := hf 2 _ rfl
    simp [cells3, cells9] at g0 g1 g2
    obtain ⟨n0, e0, _, _⟩ := DataW.trod_int Tryd.underlying3 g0
    obtain ⟨n1, e1, _, _⟩ := DataW.trod_int Tryd.underlying3 g1
    obtain ⟨t, e2, e3, _⟩ := DataW.trod_string Tryd.underlying9 g2
    simp at e0 e1 e2
    subst e0 e1 e2
    refine ⟨n0, n1, t, rfl, fun hw => ?_⟩
    subst hxy
    have e1 : (DataW.agg ([y0, y1, y2].map (·.1))).weights Tryd.prog 56 = y0.1.weights Tryd.prog 3 ++ (y1.1.weights Tryd.prog 3 ++ (y2.1.weights Tryd.prog 9 ++ [])) := by
      conv => lhs; unfold DataW.weights
      rw [Tryd.underlying56]
      rfl
    have e4 := congrArg Prod.fst e3
    refine lit_w (t := 9) (H := H) fun n hn => hw n ?_
    show n ∈ (DataW.agg ([y0, y1, y2].map (·.1))).weights Tryd.prog 56
    rw [e1]
    exact List.mem_append_right _ (List.mem_append_right _ (List.mem_append_left _ (by rw [e4]; exact hn)))
/-- A script among the arguments, and its sizes. -/
theorem open_ops {base : Nat} {v : Value} {d : DataW H} {p : List MemPlace} (hv : Value.okWide Tryd.prog W .any base 47 v) (h : DataW.Trod enc Tryd.prog W 0 (fun _ => true) true 47 v d p) (hw : ∀ n ∈ d.weights Tryd.prog 47, n ≤ reachBytes) :
    ∃ A l c, v = .slice A l.length c ∧ RdO W A l ∧ l.length ≤ 140737488355328 ∧ ∀ y ∈ l, y.n.size ≤ 140737488355328 := by
  obtain ⟨a0, len, cap, rfl⟩ := okWide_slice Tryd.underlying47 hv
  obtain ⟨fuel, hf⟩ := h
  have hrb : reachBytes ≤ 140737488355328 := by decide
  rcases open_slice Tryd.underlying47 hf with ⟨hcs, hx⟩ | ⟨a, len', cap', m, nn, D, Pl, hcs, _, hl, hm, hmm, hx, hcell⟩
  · simp [Value.cells] at hcs
    obtain ⟨rfl, rfl, rfl⟩ := hcs
    exact ⟨none, [], 0, rfl, .inl rfl, by simp, by simp⟩
  · simp [Value.cells] at hcs
    obtain ⟨rfl, rfl, rfl⟩ := hcs
    simp only [if_true] at hmm
    have hmm2 := hmm.symm
    subst hmm2
    obtain ⟨w1, w2⟩ := slice_w Tryd.underlying47 (show ∀ n ∈ (DataW.slice ((List.range len).map D) ((List.range (cap - len)).map fun j => D (len + j))).weights Tryd.prog 47, n ≤ reachBytes from by
      have e : d = .slice ((List.range len).map D) ((List.range (cap - len)).map fun j => D (len + j)) := congrArg Prod.fst hx
      rw [← e]; exact hw)
    rw [bytes56] at w1
    rw [cells56] at hcell
    by_cases h0 : len = 0
    · subst h0
      exact ⟨_, [], cap, rfl, .inl rfl, by simp, by simp⟩
    obtain ⟨b, off, spot⟩ := a
    have each : ∀ i, i < len → ∃ q : Cl, (W.cell? ((⟨b, off, spot⟩ : Addr).add (i * 3 + 0)) = some (.int .i64 q.k) ∧ W.cell? ((⟨b, off, spot⟩ : Addr).add (i * 3 + 1)) = some (.int .i64 q.v) ∧ W.cell? ((⟨b, off, spot⟩ : Addr).add (i * 3 + 2)) = some (.string q.n)) ∧ q.n.size ≤ 140737488355328 := by
      intro i hi
      obtain ⟨cs', h1, h2⟩ := hcell i (by omega)
      obtain ⟨_, hlen, hc⟩ := World.cells?_some h1
      obtain ⟨k, v, n, rfl, hsz⟩ := trod_op h2
      have hj : ∀ j, j < 3 → W.cell? ((⟨b, off, spot⟩ : Addr).add (i * 3 + j)) = ([.int .i64 k, .int .i64 v, .string n] : List Value)[j]? := fun j hj => by
        rw [← Deep.add_add]; exact hc j hj
      exact ⟨⟨k, v, n⟩, ⟨hj 0 (by omega), hj 1 (by omega), hj 2 (by omega)⟩, Nat.le_trans (hsz (w2 _ (List.mem_map.2 ⟨i, List.mem_range.2 hi, rfl⟩))) hrb⟩
    have hspot : spot = none := by
      obtain ⟨q, ⟨h1, -, -⟩, -⟩ := each 0 (by omega)
      simpa [Addr.add] using World.cell?_spot h1
    subst hspot
    haveI : Inhabited Cl := ⟨⟨0, 0, ByteArray.empty⟩⟩
    obtain ⟨f, hf⟩ := Deep.choose_lt each
    refine ⟨_, (List.range len).map f, cap, by simp, .inr ⟨b, off, rfl, fun i x hx => ?_⟩, by simp at w1 ⊢; omega, fun y hy => ?_⟩
    · have hi : i < len := by have := (List.getElem?_eq_some_iff.1 hx).1; simpa using this
      have he : x = f i := by simp [hi] at hx; exact hx.symm
      obtain ⟨⟨g0, g1, g2⟩, -⟩ := hf i hi
      rw [addr_add] at g0 g1 g2
      rw [he]
      refine ⟨by rw [← g0]; simp, by rw [← g1, Nat.add_assoc], by rw [← g2, Nat.add_assoc]⟩
    · obtain ⟨i, hi, rfl⟩ := List.mem_map.1 hy
      exact (hf i (by simpa using hi)).2
end
end Go.Proofs.YtfdcacjfngjmdaaDoor.Laws
