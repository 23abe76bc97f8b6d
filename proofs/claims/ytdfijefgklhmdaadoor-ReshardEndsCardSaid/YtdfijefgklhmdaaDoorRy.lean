import Derived.Deep.DeepCutAuto
import Derived.Laws.OwnMore
import Derived.OwnWalk
import Derived.Lib.AppendStr
import Derived.Lib.SliceRun
import Derived.Lib.SmallJoins
import Derived.IntWalk
import Derived.Lib.ItoaLen
import Derived.Test.YtdfijefgklhmdaaDoorProg
import Derived.Test.YtdfijefgklhmdaaDoorShelf
import Derived.Test.YtdfijefgklhmdaaDoorMem
import Derived.Test.YtdfijefgklhmdaaDoorRx
import Derived.Test.YtdfijefgklhmdaaDoorRj
import Derived.WalkKit
import Derived.Outline
import Derived.WalkLawsBesides
import Derived.Deep.QuietTactic
import Derived.BigQuiet
import Derived.Lib.Hide
import Derived.Handy
import Derived.Deep.RegionHeld3
import Derived.Deep.DrawnRows
import Derived.KernelRfl
import Derived.Great.Walk
import Derived.Test.YtdfijefgklhmdaaDoorOwn
namespace Go.Proofs.YtdfijefgklhmdaaDoor.T
open Go Go.RowKit Go.Sort Mem Own Go.ChangeShapes Go.WideShapes Go.Deep
set_option maxRecDepth 100000
set_option maxHeartbeats 1000000
set_option linter.unusedVariables false
set_option linter.unusedSimpArgs false

/-- A reply among the arguments: what it says, and where its list lies. -/
structure An where
  r : Rp
  A : Option Addr
  c : Nat
instance : Inhabited An := ⟨⟨⟨0, 0, ByteArray.empty, []⟩, none, 0⟩⟩
/-- A row of replies, read; of the lists the kinds and texts alone. -/
def RdA (w : World) (A : Option Addr) (l : List An) : Prop := l = [] ∨ ∃ b off, A = some ⟨b, off, none⟩ ∧ ∀ i x, l[i]? = some x → w.cell? ⟨b, off + i * 4, none⟩ = some (.int .i64 x.r.k) ∧ w.cell? ⟨b, off + i * 4 + 1, none⟩ = some (.int .i64 x.r.z) ∧ w.cell? ⟨b, off + i * 4 + 2, none⟩ = some (.string x.r.t) ∧ w.cell? ⟨b, off + i * 4 + 3, none⟩ = some (.slice x.A x.r.ks.length x.c)
def AnOk (w : World) (x : An) : Prop := RdK w x.A x.r.ks ∧ (-9223372036854775808 ≤ x.r.z ∧ x.r.z ≤ 9223372036854775807) ∧ x.r.ks.length ≤ 8796093022000
theorem RdA.below {w w' : World} {A : Option Addr} {l : List An} (h : RdA w A l) (hb : Below w.heap.size w w') : RdA w' A l := by
  rcases h with h | ⟨b, off, rfl, h⟩
  · exact .inl h
  · refine .inr ⟨b, off, rfl, fun i x hx => ?_⟩
    obtain ⟨h1, h2, h3, h4⟩ := h i x hx
    exact ⟨cell_below hb h1, cell_below hb h2, cell_below hb h3, cell_below hb h4⟩
theorem AnOk.below {w w' : World} {x : An} (h : AnOk w x) (hb : Below w.heap.size w w') : AnOk w' x := ⟨h.1.below hb, h.2⟩
theorem RdA.cell {w : World} {b off : Nat} {l : List An} (h : RdA w (some ⟨b, off, none⟩) l) {i : Nat} (hi : i < l.length) : w.cell? ⟨b, off + i * 4, none⟩ = some (.int .i64 l[i].r.k) ∧ w.cell? ⟨b, off + i * 4 + 1, none⟩ = some (.int .i64 l[i].r.z) ∧ w.cell? ⟨b, off + i * 4 + 2, none⟩ = some (.string l[i].r.t) ∧ w.cell? ⟨b, off + i * 4 + 3, none⟩ = some (.slice l[i].A l[i].r.ks.length l[i].c) := by
  rcases h with rfl | ⟨b', off', e, h⟩
  · simp at hi
  · cases e
    exact h i l[i] (List.getElem?_eq_getElem hi)
theorem RdA.addr {w : World} {A : Option Addr} {l : List An} (h : RdA w A l) (hl : 0 < l.length) : ∃ b off, A = some ⟨b, off, none⟩ := by
  rcases h with rfl | ⟨b, off, rfl, _⟩
  · simp at hl
  · exact ⟨b, off, rfl⟩
theorem cells41 : Tryd.prog.cellsOf 41 = 4 := by kernel_rfl
theorem cells39 : Tryd.prog.cellsOf 39 = 1 := by kernel_rfl
theorem cells9' : Tryd.prog.cellsOf 9 = 1 := by kernel_rfl
theorem bytes41 : Tryd.prog.bytesOf 41 = 56 := by kernel_rfl
section
variable {H : Type} {enc : TypeId × Value → H} {W : World}
theorem wAll_mem {P : Program} {e : TypeId} : ∀ {l : List (DataW H)} {d : DataW H}, d ∈ l → ∀ n ∈ d.weights P e, n ∈ DataW.weightsAll P e l
  | c :: l, d, hd, n, hn => by
    unfold DataW.weightsAll
    rcases List.mem_cons.1 hd with rfl | hd
    · exact List.mem_append_left _ hn
    · exact List.mem_append_right _ (wAll_mem hd n hn)
theorem slice_w {t e : TypeId} {elems spare : List (DataW H)} (ht : Tryd.prog.underlying t = some (.slice e)) (hw : ∀ n ∈ (DataW.slice elems spare).weights Tryd.prog t, n ≤ reachBytes) :
    elems.length * Tryd.prog.bytesOf e ≤ reachBytes ∧ ∀ d ∈ elems, ∀ n ∈ d.weights Tryd.prog e, n ≤ reachBytes := by
  have e1 : (DataW.slice elems spare).weights Tryd.prog t = (elems.length + spare.length) * Tryd.prog.bytesOf e :: (DataW.weightsAll Tryd.prog e elems ++ DataW.weightsAll Tryd.prog e spare) := by
    conv => lhs; unfold DataW.weights
    rw [ht]
  rw [e1] at hw
  refine ⟨Nat.le_trans (Nat.mul_le_mul_right _ (Nat.le_add_right _ _)) (hw _ (List.mem_cons_self ..)), fun d hd n hn => hw n (List.mem_cons_of_mem _ (List.mem_append_left _ (wAll_mem hd n hn)))⟩
/-- The cells of one reply. -/
theorem trod_reply {fuel : Nat} {cs : List Value} {x : DataW H × List MemPlace} (h : DataW.trod enc Tryd.prog W 0 (fun _ => true) true fuel 41 cs = some x) :
    ∃ k z t A n c m y, cs = [.int .i64 k, .int .i64 z, .string t, .slice A n c] ∧ (-9223372036854775808 ≤ z ∧ z ≤ 9223372036854775807) ∧ DataW.trod enc Tryd.prog W 0 (fun _ => true) true m 39 [.slice A n c] = some y ∧
      ((∀ n ∈ x.1.weights Tryd.prog 41, n ≤ reachBytes) → ∀ n ∈ y.1.weights Tryd.prog 39, n ≤ reachBytes) := by
  obtain ⟨xs, k, hk, hxy, hlen, hxl, hf⟩ := DataW.trod_struct Tryd.underlying41 h
  rw [cells41] at hlen
  match xs, hxl, cs, hlen with
  | [y0, y1, y2, y3], _, [v0, v1, v2, v3], _ =>
    have g0 := hf 0 _ rfl
    have g1 := hf 1 _ rfl
    have g2 := hf 2 _ rfl
    have g3 := hf 3 _ rfl
    simp [cells3, cells39, cells9'] at g0 g1 g2 g3
    obtain ⟨n0, e0, _, _⟩ := DataW.trod_int Tryd.underlying3 g0
    obtain ⟨n1, e1, _, hw1⟩ := DataW.trod_int Tryd.underlying3 g1
    obtain ⟨t, e2, _, _⟩ := DataW.trod_string Tryd.underlying9 g2
    have hs : ∃ A n c, v3 = .slice A n c := by
      rcases open_slice Tryd.underlying39 g3 with ⟨hcs, -⟩ | ⟨a, len, cap, m, n, D, Pl, hcs, -⟩
      · exact ⟨none, 0, 0, by simpa using hcs⟩
      · exact ⟨some a, len, cap, by simpa using hcs⟩
    obtain ⟨A, n, c, rfl⟩ := hs
    simp at e0 e1 e2
    subst e0 e1 e2
    refine ⟨n0, n1, t, A, n, c, _, _, rfl, ?_, g3, fun hw => ?_⟩
    · simp only [Lit.wf, IntKind.min, IntKind.max, IntKind.signed, IntKind.bits, Bool.and_eq_true, decide_eq_true_eq, if_true, Bool.false_eq_true, if_false] at hw1; omega
    · subst hxy
      have e1 : (DataW.agg ([y0, y1, y2, y3].map (·.1))).weights Tryd.prog 41 = y0.1.weights Tryd.prog 3 ++ (y1.1.weights Tryd.prog 3 ++ (y2.1.weights Tryd.prog 9 ++ (y3.1.weights Tryd.prog 39 ++ []))) := by
        conv => lhs; unfold DataW.weights
        rw [Tryd.underlying41]
        rfl
      intro n hn
      apply hw
      show n ∈ (DataW.agg ([y0, y1, y2, y3].map (·.1))).weights Tryd.prog 41
      rw [e1]
      exact List.mem_append_right _ (List.mem_append_right _ (List.mem_append_right _ (List.mem_append_left _ hn)))
/-- A row of replies: the cells. -/
theorem trod_row {fuel : Nat} {A : Option Addr} {n c : Nat} {x : DataW H × List MemPlace} (h : DataW.trod enc Tryd.prog W 0 (fun _ => true) true fuel 39 [.slice A n c] = some x) :
    n = 0 ∨ ∃ b off, A = some ⟨b, off, none⟩ ∧ ∃ (D : Nat → DataW H × List MemPlace) (m : Nat), (∀ i, i < n → ∃ cs, cs.length = 4 ∧ (∀ j, j < 4 → W.cell? ⟨b, off + i * 4 + j, none⟩ = cs[j]?) ∧ DataW.trod enc Tryd.prog W 0 (fun _ => true) true m 41 cs = some (D i)) ∧
      ((∀ n ∈ x.1.weights Tryd.prog 39, n ≤ reachBytes) → n * 56 ≤ reachBytes ∧ ∀ i, i < n → ∀ n ∈ (D i).1.weights Tryd.prog 41, n ≤ reachBytes) := by
  rcases open_slice Tryd.underlying39 h with ⟨hcs, hx⟩ | ⟨a, len, cap, m, nn, D, Pl, hcs, hb, hl, hm, hmm, hx, hcell⟩
  · simp at hcs; exact .inl hcs.2.1
  · simp only [if_true] at hmm
    subst hmm
    simp only [List.cons.injEq, Value.slice.injEq, and_true] at hcs
    obtain ⟨rfl, rfl, rfl⟩ := hcs
    by_cases h0 : n = 0
    · exact .inl h0
    right
    obtain ⟨b, off, spot⟩ := a
    have each : ∀ i, i < c → ∃ cs, cs.length = 4 ∧ (∀ j, j < 4 → W.cell? ((⟨b, off, spot⟩ : Addr).add (i * 4 + j)) = cs[j]?) ∧ DataW.trod enc Tryd.prog W 0 (fun _ => true) true nn 41 cs = some (D i, Pl i) := by
      intro i hi
      obtain ⟨cs', h1, h2⟩ := hcell i hi
      rw [cells41] at h1
      obtain ⟨_, hlen, hc⟩ := World.cells?_some h1
      exact ⟨cs', hlen, fun j hj => by rw [← Deep.add_add]; exact hc j hj, h2⟩
    obtain ⟨cs0, hl0, hc0, -⟩ := each 0 (by omega)
    have hspot : spot = none := by
      have := hc0 0 (by omega)
      match cs0, hl0 with
      | v :: _, _ =>
        have h2 : W.cell? ((⟨b, off, spot⟩ : Addr).add (0 * 4 + 0)) = some v := this
        simpa [Addr.add] using World.cell?_spot h2
    subst hspot
    refine ⟨b, off, rfl, fun i => (D i, Pl i), nn, fun i hi => ?_, fun hw => ?_⟩
    · obtain ⟨cs', h1, h2, h3⟩ := each i (by omega)
      refine ⟨cs', h1, fun j hj => ?_, h3⟩
      have := h2 j hj
      rw [add_off] at this
      rw [← this, Nat.add_assoc]
    · subst hx
      obtain ⟨h1, h2⟩ := slice_w Tryd.underlying39 hw
      rw [bytes41] at h1
      exact ⟨by simpa using h1, fun i hi => h2 _ (List.mem_map.2 ⟨i, List.mem_range.2 hi, rfl⟩)⟩
/-- The kinds and texts of a row of replies. -/
theorem row_k {fuel : Nat} {A : Option Addr} {n c : Nat} {x : DataW H × List MemPlace} (h : DataW.trod enc Tryd.prog W 0 (fun _ => true) true fuel 39 [.slice A n c] = some x) (hw : ∀ n ∈ x.1.weights Tryd.prog 39, n ≤ reachBytes) :
    ∃ ks : List (Int × ByteArray), n = ks.length ∧ RdK W A ks ∧ ks.length ≤ 8796093022000 := by
  rcases trod_row h with rfl | ⟨b, off, rfl, D, m, hD, hwt⟩
  · exact ⟨[], rfl, .inl rfl, Nat.zero_le _⟩
  · have each : ∀ i, i < n → ∃ q : Int × ByteArray, W.cell? ⟨b, off + i * 4, none⟩ = some (.int .i64 q.1) ∧ (∃ z, W.cell? ⟨b, off + i * 4 + 1, none⟩ = some (.int .i64 z)) ∧ W.cell? ⟨b, off + i * 4 + 2, none⟩ = some (.string q.2) ∧ ∃ B n c, W.cell? ⟨b, off + i * 4 + 3, none⟩ = some (.slice B n c) := by
      intro i hi
      obtain ⟨cs, hl, hc, ht⟩ := hD i hi
      obtain ⟨k, z, t, B, n', c', m', y, rfl, _, _, _⟩ := trod_reply ht
      exact ⟨(k, t), hc 0 (by omega), ⟨z, hc 1 (by omega)⟩, hc 2 (by omega), B, n', c', hc 3 (by omega)⟩
    obtain ⟨T, hT⟩ := choose_lt each
    have hn := (hwt hw).1
    have hrb : reachBytes ≤ 140737488355328 := by decide
    refine ⟨(List.range n).map T, by simp, .inr ⟨b, off, rfl, fun i x hx => ?_⟩, by simp; omega⟩
    have hi : i < n := by have := (List.getElem?_eq_some_iff.1 hx).1; simpa using this
    have he : x = T i := by simp [hi] at hx; exact hx.symm
    rw [he]
    exact hT i hi
/-- Answers among the arguments. -/
theorem open_answers {base : Nat} {v : Value} {d : DataW H} {p : List MemPlace} (hv : Value.okWide Tryd.prog W .any base 39 v) (h : DataW.Trod enc Tryd.prog W 0 (fun _ => true) true 39 v d p) (hw : ∀ n ∈ d.weights Tryd.prog 39, n ≤ reachBytes) :
    ∃ A l c, v = .slice A l.length c ∧ RdA W A l ∧ ∀ x ∈ l, AnOk W x := by
  obtain ⟨fuel, hf⟩ := h
  have hs : ∃ A n c, v = .slice A n c := by
    exact okWide_slice Tryd.underlying39 hv
  obtain ⟨A, n, c, rfl⟩ := hs
  have hf' : DataW.trod enc Tryd.prog W 0 (fun _ => true) true fuel 39 [.slice A n c] = some (d, p) := by simpa [Value.cells] using hf
  rcases trod_row hf' with rfl | ⟨b, off, rfl, D, m, hD, hwt⟩
  · exact ⟨A, [], c, rfl, .inl rfl, by simp⟩
  · have hwi := (hwt hw).2
    have each : ∀ i, i < n → ∃ q : An, (W.cell? ⟨b, off + i * 4, none⟩ = some (.int .i64 q.r.k) ∧ W.cell? ⟨b, off + i * 4 + 1, none⟩ = some (.int .i64 q.r.z) ∧ W.cell? ⟨b, off + i * 4 + 2, none⟩ = some (.string q.r.t) ∧ W.cell? ⟨b, off + i * 4 + 3, none⟩ = some (.slice q.A q.r.ks.length q.c)) ∧ AnOk W q := by
      intro i hi
      obtain ⟨cs, hl, hc, ht⟩ := hD i hi
      obtain ⟨k, z, t, B, n', c', m', y, rfl, hz, hy, hwy⟩ := trod_reply ht
      obtain ⟨ks, rfl, hK, hkn⟩ := row_k hy (hwy (hwi i hi))
      exact ⟨⟨⟨k, z, t, ks⟩, B, c'⟩, ⟨hc 0 (by omega), hc 1 (by omega), hc 2 (by omega), hc 3 (by omega)⟩, hK, hz, hkn⟩
    obtain ⟨T, hT⟩ := choose_lt each
    refine ⟨some ⟨b, off, none⟩, (List.range n).map T, c, by simp, .inr ⟨b, off, rfl, fun i x hx => ?_⟩, fun x hx => ?_⟩
    · have hi : i < n := by have := (List.getElem?_eq_some_iff.1 hx).1; simpa using this
      have he : x = T i := by simp [hi] at hx; exact hx.symm
      rw [he]
      exact (hT i hi).1
    · obtain ⟨i, hi, rfl⟩ := List.mem_map.1 hx
      exact (hT i (by simpa using hi)).2
end
end Go.Proofs.YtdfijefgklhmdaaDoor.T
