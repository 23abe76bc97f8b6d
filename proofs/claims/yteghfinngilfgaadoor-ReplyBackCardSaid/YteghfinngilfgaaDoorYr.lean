import Derived.Deep.DeepCutAuto
import Derived.Laws.OwnMore
import Derived.OwnWalk
import Derived.Lib.AppendStr
import Derived.Lib.SliceRun
import Derived.Lib.SmallJoins
import Derived.IntWalk
import Derived.Lib.ItoaLen
import Derived.WalkMore
import Derived.Lib.AtoiAllCases
import Derived.Lib.OthersKept
import Derived.Laws.Runes
import Derived.Deep.LoopGhost
import Derived.Deep.RegionLaw
import Derived.Deep.AppendLies
import Derived.Test.YteghfinngilfgaaDoorProg
import Derived.Test.YteghfinngilfgaaDoorMem
import Derived.Test.YteghfinngilfgaaDoorYm
import Derived.WalkKit
import Derived.Deep.SlicePairs
import Derived.Deep.Strs
import Derived.WideShapes
import Derived.WalkKit
import Derived.Outline
import Derived.WalkLawsBesides
import Derived.Deep.QuietTactic
import Derived.BigQuiet
import Derived.Lib.Hide
import Derived.Handy
import Derived.Deep.RegionHeld3
import Derived.Deep.DrawnRows
import Derived.KernelRfl
import Derived.Great.Walk
import Derived.Test.YteghfinngilfgaaDoorOwn
namespace Go.Proofs.YteghfinngilfgaaDoor.T
open Go Go.RowKit Go.Sort Mem Own
set_option maxRecDepth 100000
set_option maxHeartbeats 1000000
set_option linter.unusedVariables false
set_option linter.unusedSimpArgs false

open Go.ChangeShapes Go.WideShapes Go.Deep
instance : Inhabited T := ⟨.mk 0 0 ByteArray.empty []⟩
/-- A reply as it may stand among the arguments. -/
inductive Opd : T → Prop where
  | mk {k z : Int} {t : ByteArray} {l : List T} : -9223372036854775808 ≤ z → z ≤ 9223372036854775807 → t.size ≤ 9223372036854775807 → l.length ≤ 1125899906842624 → (∀ y ∈ l, Opd y) → Opd (.mk k z t l)
theorem Opd.fit_aux : ∀ n (x : T), x.sz ≤ n → Opd x → Fit x := by
  intro n
  induction n with
  | zero => intro x hx; have := sz_pos x; omega
  | succ n ih =>
    intro x hx h
    cases h with
    | mk h1 h2 h3 h4 h5 => exact .mk h4 fun y hy => ih y (by have := szs_mem hy; simp only [T.sz] at hx; omega) (h5 y hy)
theorem Opd.fit {x : T} (h : Opd x) : Fit x := Opd.fit_aux x.sz x (Nat.le_refl _) h
theorem Opd.wf_aux : ∀ n (x : T) (d : Int), x.sz ≤ n → Opd x → smallB d x = true → Wf x := by
  intro n
  induction n with
  | zero => intro x d hx; have := sz_pos x; omega
  | succ n ih =>
    intro x d hx h hs
    rw [smallB_mk] at hs
    cases h with
    | @mk k z t l h1 h2 h3 h4 h5 =>
      simp at hs
      obtain ⟨⟨⟨s1, s2⟩, s3⟩, s4⟩ := hs
      have s2' : l.length ≤ 60 := s2
      have s3' : t.size ≤ 70000 := s3
      exact .mk h1 h2 (by omega) (by omega) fun y hy => ih y (d + 1) (by have := szs_mem hy; simp only [T.sz] at hx; omega) (h5 y hy) (s4 y hy)
theorem Opd.wf {x : T} {d : Int} (h : Opd x) (hs : smallB d x = true) : Wf x := Opd.wf_aux x.sz x d (Nat.le_refl _) h hs
/-- The bound of a small reply's writing. -/
def wtB : Nat → Nat
  | 0 => 70064
  | n + 1 => 70064 + 60 * wtB n
theorem wt_small : ∀ (m k : Nat) (x : T) (d : Int), k + m = 4 → smallB d x = true → wt k x ≤ wtB m := by
  intro m
  induction m with
  | zero =>
    intro k x d hk hs
    rw [smallB_mk] at hs
    simp at hs
    rw [wt_mk, if_pos (by omega)]
    show _ ≤ 70064
    omega
  | succ m ih =>
    intro k x d hk hs
    rw [smallB_mk] at hs
    simp at hs
    obtain ⟨⟨⟨s1, s2⟩, s3⟩, s4⟩ := hs
    rw [wt_mk, if_neg (by omega)]
    have : ∀ l : List T, (∀ y ∈ l, smallB (d + 1) y = true) → wts (k + 1) l ≤ l.length * wtB m := by
      intro l
      induction l with
      | nil => intro _; simp [wts]
      | cons y l ihl =>
        intro hl
        simp only [wts, List.length_cons]
        have e1 := ih (k + 1) y (d + 1) (by omega) (hl y (List.mem_cons_self ..))
        have e2 := ihl fun z hz => hl z (List.mem_cons_of_mem _ hz)
        rw [Nat.add_mul]
        omega
    have h1 := this x.l s4
    have h2 : x.l.length * wtB m ≤ 60 * wtB m := Nat.mul_le_mul_right _ (by omega)
    show _ ≤ 70064 + 60 * wtB m
    omega
theorem wt_ok {x : T} (h : smallB 0 x = true) : wt 0 x ≤ 100000000000000 := Nat.le_trans (wt_small 4 0 x 0 rfl h) (by decide)
theorem cells24 : Tryd.prog.cellsOf 24 = 4 := by kernel_rfl
theorem cells22 : Tryd.prog.cellsOf 22 = 1 := by kernel_rfl
theorem cells3 : Tryd.prog.cellsOf 3 = 1 := by kernel_rfl
theorem cells9' : Tryd.prog.cellsOf 9 = 1 := by kernel_rfl
theorem bytes24 : Tryd.prog.bytesOf 24 = 56 := by kernel_rfl
section
variable {H : Type} {enc : TypeId × Value → H} {W : World}
theorem wAll_mem {P : Program} {e : TypeId} : ∀ {l : List (DataW H)} {d : DataW H}, d ∈ l → ∀ n ∈ d.weights P e, n ∈ DataW.weightsAll P e l
  | c :: l, d, hd, n, hn => by
    unfold DataW.weightsAll
    rcases List.mem_cons.1 hd with rfl | hd
    · exact List.mem_append_left _ hn
    · exact List.mem_append_right _ (wAll_mem hd n hn)
theorem slice_w {t e : TypeId} {elems spare : List (DataW H)} (ht : Tryd.prog.underlying t = some (.slice e)) (hw : ∀ n ∈ (DataW.slice elems spare).weights Tryd.prog t, n ≤ reachBytes) :
    elems.length * Tryd.prog.bytesOf e ≤ reachBytes ∧ ∀ d ∈ elems, ∀ n ∈ d.weights Tryd.prog e, n ≤ reachBytes := by
  have e1 : (DataW.slice elems spare).weights Tryd.prog t = (elems.length + spare.length) * Tryd.prog.bytesOf e :: (DataW.weightsAll Tryd.prog e elems ++ DataW.weightsAll Tryd.prog e spare) := by
    conv => lhs; unfold DataW.weights
    rw [ht]
  rw [e1] at hw
  refine ⟨Nat.le_trans (Nat.mul_le_mul_right _ (Nat.le_add_right _ _)) (hw _ (List.mem_cons_self ..)), fun d hd n hn => hw n (List.mem_cons_of_mem _ (List.mem_append_left _ (wAll_mem hd n hn)))⟩
/-- The cells of one reply. -/
theorem trod_reply {fuel : Nat} {cs : List Value} {x : DataW H × List MemPlace} (h : DataW.trod enc Tryd.prog W 0 (fun _ => true) true fuel 24 cs = some x) :
    ∃ k z t A n c m y, cs = [.int .i64 k, .int .i64 z, .string t, .slice A n c] ∧ (-9223372036854775808 ≤ z ∧ z ≤ 9223372036854775807) ∧ t.size ≤ maxLen ∧ DataW.trod enc Tryd.prog W 0 (fun _ => true) true m 22 [.slice A n c] = some y ∧ SizeOf.sizeOf y.1 < SizeOf.sizeOf x.1 ∧
      ((∀ n ∈ x.1.weights Tryd.prog 24, n ≤ reachBytes) → ∀ n ∈ y.1.weights Tryd.prog 22, n ≤ reachBytes) := by
  obtain ⟨xs, k, hk, hxy, hlen, hxl, hf⟩ := DataW.trod_struct Tryd.underlying24 h
  rw [cells24] at hlen
  match xs, hxl, cs, hlen with
  | [y0, y1, y2, y3], _, [v0, v1, v2, v3], _ =>
    have g0 := hf 0 _ rfl
    have g1 := hf 1 _ rfl
    have g2 := hf 2 _ rfl
    have g3 := hf 3 _ rfl
    simp [cells3, cells22, cells9'] at g0 g1 g2 g3
    obtain ⟨n0, e0, _, _⟩ := DataW.trod_int Tryd.underlying3 g0
    obtain ⟨n1, e1, _, hw1⟩ := DataW.trod_int Tryd.underlying3 g1
    obtain ⟨t, e2, _, htz⟩ := DataW.trod_string Tryd.underlying9 g2
    have hs : ∃ A n c, v3 = .slice A n c := by
      rcases open_slice Tryd.underlying22 g3 with ⟨hcs, -⟩ | ⟨a, len, cap, m, n, D, Pl, hcs, -⟩
      · exact ⟨none, 0, 0, by simpa using hcs⟩
      · exact ⟨some a, len, cap, by simpa using hcs⟩
    obtain ⟨A, n, c, rfl⟩ := hs
    simp at e0 e1 e2
    subst e0 e1 e2
    refine ⟨n0, n1, t, A, n, c, _, _, rfl, ?_, htz, g3, ?_, fun hw => ?_⟩
    · simp only [Lit.wf, IntKind.min, IntKind.max, IntKind.signed, IntKind.bits, Bool.and_eq_true, decide_eq_true_eq, if_true, Bool.false_eq_true, if_false] at hw1; omega
    · subst hxy
      show SizeOf.sizeOf y3.1 < SizeOf.sizeOf (DataW.agg [y0.1, y1.1, y2.1, y3.1])
      simp
      omega
    · subst hxy
      have e1 : (DataW.agg ([y0, y1, y2, y3].map (·.1))).weights Tryd.prog 24 = y0.1.weights Tryd.prog 3 ++ (y1.1.weights Tryd.prog 3 ++ (y2.1.weights Tryd.prog 9 ++ (y3.1.weights Tryd.prog 22 ++ []))) := by
        conv => lhs; unfold DataW.weights
        rw [Tryd.underlying24]
        rfl
      intro n hn
      apply hw
      show n ∈ (DataW.agg ([y0, y1, y2, y3].map (·.1))).weights Tryd.prog 24
      rw [e1]
      exact List.mem_append_right _ (List.mem_append_right _ (List.mem_append_right _ (List.mem_append_left _ hn)))
/-- A row of replies: the cells. -/
theorem trod_row {fuel : Nat} {A : Option Addr} {n c : Nat} {x : DataW H × List MemPlace} (h : DataW.trod enc Tryd.prog W 0 (fun _ => true) true fuel 22 [.slice A n c] = some x) :
    n = 0 ∨ ∃ b off, A = some ⟨b, off, none⟩ ∧ ∃ (D : Nat → DataW H × List MemPlace) (m : Nat), (∀ i, i < n → ∃ cs, cs.length = 4 ∧ (∀ j, j < 4 → W.cell? ⟨b, off + i * 4 + j, none⟩ = cs[j]?) ∧ DataW.trod enc Tryd.prog W 0 (fun _ => true) true m 24 cs = some (D i) ∧ SizeOf.sizeOf (D i).1 < SizeOf.sizeOf x.1) ∧
      ((∀ n ∈ x.1.weights Tryd.prog 22, n ≤ reachBytes) → n * 56 ≤ reachBytes ∧ ∀ i, i < n → ∀ n ∈ (D i).1.weights Tryd.prog 24, n ≤ reachBytes) := by
  rcases open_slice Tryd.underlying22 h with ⟨hcs, hx⟩ | ⟨a, len, cap, m, nn, D, Pl, hcs, hb, hl, hm, hmm, hx, hcell⟩
  · simp at hcs; exact .inl hcs.2.1
  · simp only [if_true] at hmm
    subst hmm
    simp only [List.cons.injEq, Value.slice.injEq, and_true] at hcs
    obtain ⟨rfl, rfl, rfl⟩ := hcs
    by_cases h0 : n = 0
    · exact .inl h0
    right
    obtain ⟨b, off, spot⟩ := a
    have each : ∀ i, i < c → ∃ cs, cs.length = 4 ∧ (∀ j, j < 4 → W.cell? ((⟨b, off, spot⟩ : Addr).add (i * 4 + j)) = cs[j]?) ∧ DataW.trod enc Tryd.prog W 0 (fun _ => true) true nn 24 cs = some (D i, Pl i) := by
      intro i hi
      obtain ⟨cs', h1, h2⟩ := hcell i hi
      rw [cells24] at h1
      obtain ⟨_, hlen, hc⟩ := World.cells?_some h1
      exact ⟨cs', hlen, fun j hj => by rw [← Deep.add_add]; exact hc j hj, h2⟩
    obtain ⟨cs0, hl0, hc0, -⟩ := each 0 (by omega)
    have hspot : spot = none := by
      have := hc0 0 (by omega)
      match cs0, hl0 with
      | v :: _, _ =>
        have h2 : W.cell? ((⟨b, off, spot⟩ : Addr).add (0 * 4 + 0)) = some v := this
        simpa [Addr.add] using World.cell?_spot h2
    subst hspot
    refine ⟨b, off, rfl, fun i => (D i, Pl i), nn, fun i hi => ?_, fun hw => ?_⟩
    · obtain ⟨cs', h1, h2, h3⟩ := each i (by omega)
      refine ⟨cs', h1, fun j hj => ?_, h3, ?_⟩
      · have := h2 j hj
        rw [Own.addr_add] at this
        rw [← this, Nat.add_assoc]
      · subst hx
        have hmem : D i ∈ (List.range n).map D := List.mem_map.2 ⟨i, List.mem_range.2 hi, rfl⟩
        have := List.sizeOf_lt_of_mem hmem
        simp
        omega
    · subst hx
      obtain ⟨h1, h2⟩ := slice_w Tryd.underlying22 hw
      rw [bytes24] at h1
      exact ⟨by simpa using h1, fun i hi => h2 _ (List.mem_map.2 ⟨i, List.mem_range.2 hi, rfl⟩)⟩
theorem row_of {W : World} {b : Nat} {f : Nat → T} : ∀ (n off s : Nat), (∀ i, i < n → ∃ A c, W.cell? ⟨b, off + i * 4, none⟩ = some (.int .i64 (f (s + i)).k) ∧ W.cell? ⟨b, off + i * 4 + 1, none⟩ = some (.int .i64 (f (s + i)).z) ∧ W.cell? ⟨b, off + i * 4 + 2, none⟩ = some (.string (f (s + i)).t) ∧ W.cell? ⟨b, off + i * 4 + 3, none⟩ = some (.slice A (f (s + i)).l.length c) ∧ RdT W A (f (s + i))) → RdRow W b off ((List.range' s n).map f) := by
  intro n
  induction n with
  | zero => intro off s _; trivial
  | succ n ih =>
    intro off s h
    rw [List.range'_succ, List.map_cons]
    refine ⟨by simpa using h 0 (by omega), ih (off + 4) (s + 1) fun i hi => ?_⟩
    have := h (i + 1) (by omega)
    rw [show off + 4 + i * 4 = off + (i + 1) * 4 by omega, show s + 1 + i = s + (i + 1) by omega]
    exact this
/-- A reply's tree, read. -/
theorem tree_of : ∀ (N : Nat) {fuel : Nat} {cs : List Value} {x : DataW H × List MemPlace}, SizeOf.sizeOf x.1 ≤ N → DataW.trod enc Tryd.prog W 0 (fun _ => true) true fuel 24 cs = some x → (∀ n ∈ x.1.weights Tryd.prog 24, n ≤ reachBytes) →
    ∃ (y : T) (A : Option Addr) (c : Nat), cs = [.int .i64 y.k, .int .i64 y.z, .string y.t, .slice A y.l.length c] ∧ RdT W A y ∧ Opd y := by
  intro N
  induction N with
  | zero =>
    intro fuel cs x hN h hw
    obtain ⟨k, z, t, A, n, c, m, y, rfl, hz, ht, hy, hlt, hwy⟩ := trod_reply h
    omega
  | succ N ih =>
    intro fuel cs x hN h hw
    obtain ⟨k, z, t, A, n, c, m, y, rfl, hz, ht, hy, hlt, hwy⟩ := trod_reply h
    have htz : t.size ≤ 9223372036854775807 := Nat.le_trans ht (by decide)
    rcases trod_row hy with rfl | ⟨b, off, rfl, D, m', hD, hwt⟩
    · exact ⟨.mk k z t [], A, c, rfl, .inl rfl, .mk hz.1 hz.2 htz (by simp) (by simp)⟩
    · obtain ⟨hn, hwi⟩ := hwt (hwy hw)
      have hrb : reachBytes ≤ 140737488355328 := by decide
      have each : ∀ i, i < n → ∃ q : T, (∃ A c, W.cell? ⟨b, off + i * 4, none⟩ = some (.int .i64 q.k) ∧ W.cell? ⟨b, off + i * 4 + 1, none⟩ = some (.int .i64 q.z) ∧ W.cell? ⟨b, off + i * 4 + 2, none⟩ = some (.string q.t) ∧ W.cell? ⟨b, off + i * 4 + 3, none⟩ = some (.slice A q.l.length c) ∧ RdT W A q) ∧ Opd q := by
        intro i hi
        obtain ⟨cs, hl, hc, hd, hsz⟩ := hD i hi
        obtain ⟨q, A', c', rfl, hr, ho⟩ := ih (by omega) hd (hwi i hi)
        exact ⟨q, ⟨A', c', hc 0 (by omega), hc 1 (by omega), hc 2 (by omega), hc 3 (by omega), hr⟩, ho⟩
      obtain ⟨f, hf⟩ := choose_lt each
      refine ⟨.mk k z t ((List.range' 0 n).map f), some ⟨b, off, none⟩, c, by simp [T.l, T.k, T.z, T.t], .inr ⟨b, off, rfl, row_of n off 0 fun i hi => by simpa using (hf i hi).1⟩, .mk hz.1 hz.2 htz (by simp; omega) fun q hq => ?_⟩
      obtain ⟨i, hi, rfl⟩ := List.mem_map.1 hq
      exact (hf i (by simpa using hi)).2
end
end Go.Proofs.YteghfinngilfgaaDoor.T
