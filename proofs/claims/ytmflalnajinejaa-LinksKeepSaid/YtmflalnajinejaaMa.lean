import Derived.Deep.DeepCutAuto
import Derived.Laws.OwnMore
import Derived.OwnWalk
import Derived.Lib.AppendStr
import Derived.Lib.SliceRun
import Derived.Lib.SmallJoins
import Derived.IntWalk
import Derived.WalkMore
import Derived.Lib.OthersKept
import Derived.Deep.LoopGhost
import Derived.Deep.RegionLaw
import Derived.Deep.AppendLies
import Derived.Test.YtmflalnajinejaaProg
import Derived.Test.YtmflalnajinejaaMem
import Derived.Test.YtmflalnajinejaaBlk
import Derived.Test.YtmflalnajinejaaAp
import Derived.Test.YtmflalnajinejaaKd
import Derived.Test.YtmflalnajinejaaKa
import Derived.Deep.SlicePairs
import Derived.Deep.Strs
import Derived.WideShapes
import Derived.WalkKit
import Derived.Outline
import Derived.WalkLawsBesides
import Derived.Deep.QuietTactic
import Derived.BigQuiet
import Derived.Lib.Hide
import Derived.Handy
import Derived.Deep.RegionHeld3
import Derived.Deep.DrawnRows
import Derived.KernelRfl
import Derived.Great.Walk
import Derived.Test.YtmflalnajinejaaOwn
namespace Go.Proofs.Ytmflalnajinejaa.T
open Go Go.RowKit Go.Sort Mem Own
set_option maxRecDepth 100000
set_option maxHeartbeats 1000000
set_option linter.unusedVariables false
set_option linter.unusedSimpArgs false

open Go.ChangeShapes Go.WideShapes Go.Deep
instance : Inhabited T := ⟨.mk 0 0 ByteArray.empty []⟩
instance : Inhabited Lt := ⟨Lt.zero⟩
/-- A reply as it may stand among the arguments. -/
inductive Opd : T → Prop where
  | mk {k z : Int} {t : ByteArray} {l : List T} : t.size ≤ 140737488355328 → l.length ≤ 140737488355328 → (∀ y ∈ l, Opd y) → Opd (.mk k z t l)
theorem cells31 : Try.prog.cellsOf 31 = 4 := by kernel_rfl
theorem cells33 : Try.prog.cellsOf 33 = 13 := by kernel_rfl
theorem cells35 : Try.prog.cellsOf 35 = 16 := by kernel_rfl
theorem cells29 : Try.prog.cellsOf 29 = 1 := by kernel_rfl
theorem cells28 : Try.prog.cellsOf 28 = 1 := by kernel_rfl
theorem cellsI : Try.prog.cellsOf 3 = 1 := by kernel_rfl
theorem cellsS : Try.prog.cellsOf 9 = 1 := by kernel_rfl
theorem cellsB : Try.prog.cellsOf 4 = 1 := by kernel_rfl
theorem bytes31 : Try.prog.bytesOf 31 = 56 := by kernel_rfl
theorem bytesS : Try.prog.bytesOf 9 = 16 := by kernel_rfl
theorem reach_le : reachBytes ≤ 140737488355328 := by decide
section
variable {H : Type} {enc : TypeId × Value → H} {W : World}
theorem wAll_mem {P : Program} {e : TypeId} : ∀ {l : List (DataW H)} {d : DataW H}, d ∈ l → ∀ n ∈ d.weights P e, n ∈ DataW.weightsAll P e l
  | c :: l, d, hd, n, hn => by
    unfold DataW.weightsAll
    rcases List.mem_cons.1 hd with rfl | hd
    · exact List.mem_append_left _ hn
    · exact List.mem_append_right _ (wAll_mem hd n hn)
theorem wEach_mem {P : Program} : ∀ {ts : List TypeId} {ds : List (DataW H)} {i : Nat} {t : TypeId} {d : DataW H}, ts[i]? = some t → ds[i]? = some d → ∀ n ∈ d.weights P t, n ∈ DataW.weightsEach P ts ds
  | t :: ts, d :: ds, 0, t', d', h1, h2, n, hn => by
    simp at h1 h2; subst h1; subst h2
    unfold DataW.weightsEach
    exact List.mem_append_left _ hn
  | t :: ts, d :: ds, i + 1, t', d', h1, h2, n, hn => by
    unfold DataW.weightsEach
    exact List.mem_append_right _ (wEach_mem (i := i) (by simpa using h1) (by simpa using h2) n hn)
  | [], _, i, _, _, h1, _, _, _ => by simp at h1
  | _ :: _, [], i, _, _, _, h2, _, _ => by simp at h2
theorem agg_w {P : Program} {t : TypeId} {fs : Array Field} {parts : List (DataW H)} {r : Nat} (ht : P.underlying t = some (.struct fs)) (hw : ∀ n ∈ (DataW.agg parts).weights P t, n ≤ r) {i : Nat} {t' : TypeId} {d : DataW H} (h1 : (fs.toList.map (·.type))[i]? = some t') (h2 : parts[i]? = some d) : ∀ n ∈ d.weights P t', n ≤ r := by
  intro n hn
  apply hw
  have e1 : (DataW.agg parts).weights P t = DataW.weightsEach P (fs.toList.map (·.type)) parts := by
    conv => lhs; unfold DataW.weights
    rw [ht]
  rw [e1]
  exact wEach_mem h1 h2 n hn
theorem slice_w {t e : TypeId} {elems spare : List (DataW H)} (ht : Try.prog.underlying t = some (.slice e)) (hw : ∀ n ∈ (DataW.slice elems spare).weights Try.prog t, n ≤ reachBytes) :
    elems.length * Try.prog.bytesOf e ≤ reachBytes ∧ ∀ d ∈ elems, ∀ n ∈ d.weights Try.prog e, n ≤ reachBytes := by
  have e1 : (DataW.slice elems spare).weights Try.prog t = (elems.length + spare.length) * Try.prog.bytesOf e :: (DataW.weightsAll Try.prog e elems ++ DataW.weightsAll Try.prog e spare) := by
    conv => lhs; unfold DataW.weights
    rw [ht]
  rw [e1] at hw
  refine ⟨Nat.le_trans (Nat.mul_le_mul_right _ (Nat.le_add_right _ _)) (hw _ (List.mem_cons_self ..)), fun d hd n hn => hw n (List.mem_cons_of_mem _ (List.mem_append_left _ (wAll_mem hd n hn)))⟩
theorem str_w {s : ByteArray} {t : TypeId} (hw : ∀ n ∈ (DataW.lit (H := H) (.string s.data.toList)).weights Try.prog t, n ≤ reachBytes) : s.size ≤ 140737488355328 := by
  have := hw s.data.toList.length (by unfold DataW.weights; simp)
  have h2 := reach_le
  have h3 : s.data.toList.length = s.size := Array.length_toList
  omega
/-- A row of texts. -/
theorem trod_texts {fuel : Nat} {cs : List Value} {x : DataW H × List MemPlace} (h : DataW.trod enc Try.prog W 0 (fun _ => true) true fuel 28 cs = some x) :
    ∃ A l c, cs = [.slice A l.length c] ∧ Rd W A l ∧ ((∀ n ∈ x.1.weights Try.prog 28, n ≤ reachBytes) → l.length ≤ 140737488355328 ∧ ∀ s ∈ l, s.size ≤ 140737488355328) := by
  rcases open_strs Try.underlying28 Try.underlying9 cellsS h with ⟨hcs, hx⟩ | ⟨a, len, cap, m, Sx, hcs, _, hl, hm, hmm, hx, hcell⟩
  · exact ⟨none, [], 0, by simpa using hcs, .inl rfl, fun _ => ⟨Nat.zero_le _, fun s hs => by cases hs⟩⟩
  · simp only [if_true] at hmm
    have hmm2 := hmm.symm
    subst hmm2
    refine ⟨some a, (List.range len).map Sx, cap, by simpa using hcs, ?_, fun hw => ?_⟩
    · by_cases h0 : len = 0
      · subst h0; exact .inl rfl
      · obtain ⟨b, off, spot⟩ := a
        have hc0 := (hcell 0 (by omega)).1
        have hspot : spot = none := by simpa [Addr.add] using World.cell?_spot hc0
        subst hspot
        refine .inr ⟨b, off, rfl, fun i x hx => ?_⟩
        have hi : i < len := by have := (List.getElem?_eq_some_iff.1 hx).1; simpa using this
        have := (hcell i (by omega)).1
        have he : x = Sx i := by simp [hi] at hx; exact hx.symm
        rw [he, ← this]
        by_cases hz : i = 0
        · subst hz; simp [Addr.add]
        · simp [Addr.add, hz]
    · subst hx
      obtain ⟨h1, h2⟩ := slice_w Try.underlying28 hw
      have hr := reach_le
      rw [bytesS] at h1
      simp at h1
      refine ⟨by simp; omega, fun s hs => ?_⟩
      obtain ⟨i, hi, rfl⟩ := List.mem_map.1 hs
      exact str_w (h2 _ (List.mem_map.2 ⟨i, hi, rfl⟩))
/-- The cells of one reply. -/
theorem trod_reply {fuel : Nat} {cs : List Value} {x : DataW H × List MemPlace} (h : DataW.trod enc Try.prog W 0 (fun _ => true) true fuel 31 cs = some x) :
    ∃ k z t A n c m y, cs = [.int .i64 k, .int .i64 z, .string t, .slice A n c] ∧ DataW.trod enc Try.prog W 0 (fun _ => true) true m 29 [.slice A n c] = some y ∧ SizeOf.sizeOf y.1 < SizeOf.sizeOf x.1 ∧
      ((∀ n ∈ x.1.weights Try.prog 31, n ≤ reachBytes) → t.size ≤ 140737488355328 ∧ ∀ n ∈ y.1.weights Try.prog 29, n ≤ reachBytes) := by
  obtain ⟨xs, k, hk, hxy, hlen, hxl, hf⟩ := DataW.trod_struct Try.underlying31 h
  rw [cells31] at hlen
  match xs, hxl, cs, hlen with
  | [y0, y1, y2, y3], _, [v0, v1, v2, v3], _ =>
    have g0 := hf 0 _ rfl
    have g1 := hf 1 _ rfl
    have g2 := hf 2 _ rfl
    have g3 := hf 3 _ rfl
    simp [cellsI, cells29, cellsS] at g0 g1 g2 g3
    obtain ⟨n0, e0, _, _⟩ := DataW.trod_int Try.underlying3 g0
    obtain ⟨n1, e1, _, hw1⟩ := DataW.trod_int Try.underlying3 g1
    obtain ⟨t, e2, hy2, htz⟩ := DataW.trod_string Try.underlying9 g2
    have hs : ∃ A n c, v3 = .slice A n c := by
      rcases open_slice Try.underlying29 g3 with ⟨hcs, -⟩ | ⟨a, len, cap, m, n, D, Pl, hcs, -⟩
      · exact ⟨none, 0, 0, by simpa using hcs⟩
      · exact ⟨some a, len, cap, by simpa using hcs⟩
    obtain ⟨A, n, c, rfl⟩ := hs
    simp at e0 e1 e2
    subst e0 e1 e2
    refine ⟨n0, n1, t, A, n, c, _, _, rfl, g3, ?_, fun hw => ?_⟩
    · subst hxy
      show SizeOf.sizeOf y3.1 < SizeOf.sizeOf (DataW.agg [y0.1, y1.1, y2.1, y3.1])
      simp
      omega
    · subst hxy
      have w2 := agg_w Try.underlying31 hw (i := 2) rfl rfl
      have w3 := agg_w Try.underlying31 hw (i := 3) rfl rfl
      subst hy2
      exact ⟨str_w w2, w3⟩
/-- A row of things of k cells: the cells. -/
theorem trod_rows {ts te k : Nat} (ht : Try.prog.underlying ts = some (.slice te)) (hk : Try.prog.cellsOf te = k) (hk0 : 0 < k) {fuel : Nat} {cs : List Value} {x : DataW H × List MemPlace} (h : DataW.trod enc Try.prog W 0 (fun _ => true) true fuel ts cs = some x) :
    ∃ A n c, cs = [.slice A n c] ∧ (n = 0 ∨ ∃ b off, A = some ⟨b, off, none⟩ ∧ ∃ (D : Nat → DataW H × List MemPlace) (m : Nat), (∀ i, i < n → ∃ cs, cs.length = k ∧ (∀ j, j < k → W.cell? ⟨b, off + i * k + j, none⟩ = cs[j]?) ∧ DataW.trod enc Try.prog W 0 (fun _ => true) true m te cs = some (D i) ∧ SizeOf.sizeOf (D i).1 < SizeOf.sizeOf x.1) ∧
      ((∀ n ∈ x.1.weights Try.prog ts, n ≤ reachBytes) → n * Try.prog.bytesOf te ≤ reachBytes ∧ ∀ i, i < n → ∀ n ∈ (D i).1.weights Try.prog te, n ≤ reachBytes)) := by
  rcases open_slice ht h with ⟨hcs, hx⟩ | ⟨a, len, cap, m, nn, D, Pl, hcs, hb, hl, hm, hmm, hx, hcell⟩
  · exact ⟨none, 0, 0, hcs, .inl rfl⟩
  · refine ⟨some a, len, cap, hcs, ?_⟩
    simp only [if_true] at hmm
    subst hmm
    by_cases h0 : len = 0
    · exact .inl h0
    right
    obtain ⟨b, off, spot⟩ := a
    have each : ∀ i, i < m → ∃ cs, cs.length = k ∧ (∀ j, j < k → W.cell? ((⟨b, off, spot⟩ : Addr).add (i * k + j)) = cs[j]?) ∧ DataW.trod enc Try.prog W 0 (fun _ => true) true nn te cs = some (D i, Pl i) := by
      intro i hi
      obtain ⟨cs', h1, h2⟩ := hcell i hi
      rw [hk] at h1
      obtain ⟨_, hlen, hc⟩ := World.cells?_some h1
      exact ⟨cs', hlen, fun j hj => by rw [← Deep.add_add]; exact hc j hj, h2⟩
    obtain ⟨cs0, hl0, hc0, -⟩ := each 0 (by omega)
    have hspot : spot = none := by
      have := hc0 0 hk0
      match cs0, hl0 with
      | v :: _, _ =>
        have h2 : W.cell? ((⟨b, off, spot⟩ : Addr).add (0 * k + 0)) = some v := this
        simpa [Addr.add] using World.cell?_spot h2
      | [], e => simp at e; omega
    subst hspot
    refine ⟨b, off, rfl, fun i => (D i, Pl i), nn, fun i hi => ?_, fun hw => ?_⟩
    · obtain ⟨cs', h1, h2, h3⟩ := each i (by omega)
      refine ⟨cs', h1, fun j hj => ?_, h3, ?_⟩
      · have := h2 j hj
        rw [Own.addr_add] at this
        rw [← this, Nat.add_assoc]
      · subst hx
        have hmem : D i ∈ (List.range len).map D := List.mem_map.2 ⟨i, List.mem_range.2 hi, rfl⟩
        have := List.sizeOf_lt_of_mem hmem
        simp
        omega
    · subst hx
      obtain ⟨h1, h2⟩ := slice_w ht hw
      exact ⟨by simpa using h1, fun i hi => h2 _ (List.mem_map.2 ⟨i, List.mem_range.2 hi, rfl⟩)⟩
theorem row_of {W : World} {b : Nat} {f : Nat → T} : ∀ (n off s : Nat), (∀ i, i < n → ∃ A c, W.cell? ⟨b, off + i * 4, none⟩ = some (.int .i64 (f (s + i)).k) ∧ W.cell? ⟨b, off + i * 4 + 1, none⟩ = some (.int .i64 (f (s + i)).z) ∧ W.cell? ⟨b, off + i * 4 + 2, none⟩ = some (.string (f (s + i)).t) ∧ W.cell? ⟨b, off + i * 4 + 3, none⟩ = some (.slice A (f (s + i)).l.length c) ∧ RdT W A (f (s + i))) → RdRow W b off ((List.range' s n).map f) := by
  intro n
  induction n with
  | zero => intro off s _; trivial
  | succ n ih =>
    intro off s h
    rw [List.range'_succ, List.map_cons]
    refine ⟨by simpa using h 0 (by omega), ih (off + 4) (s + 1) fun i hi => ?_⟩
    have := h (i + 1) (by omega)
    rw [show off + 4 + i * 4 = off + (i + 1) * 4 by omega, show s + 1 + i = s + (i + 1) by omega]
    exact this
/-- A reply's tree, read. -/
theorem tree_of : ∀ (N : Nat) {fuel : Nat} {cs : List Value} {x : DataW H × List MemPlace}, SizeOf.sizeOf x.1 ≤ N → DataW.trod enc Try.prog W 0 (fun _ => true) true fuel 31 cs = some x → (∀ n ∈ x.1.weights Try.prog 31, n ≤ reachBytes) →
    ∃ (y : T) (A : Option Addr) (c : Nat), cs = [.int .i64 y.k, .int .i64 y.z, .string y.t, .slice A y.l.length c] ∧ RdT W A y ∧ Opd y := by
  intro N
  induction N with
  | zero =>
    intro fuel cs x hN h hw
    obtain ⟨k, z, t, A, n, c, m, y, rfl, hy, hlt, hwy⟩ := trod_reply h
    omega
  | succ N ih =>
    intro fuel cs x hN h hw
    obtain ⟨k, z, t, A, n, c, m, y, rfl, hy, hlt, hwy⟩ := trod_reply h
    obtain ⟨htz, hwy⟩ := hwy hw
    obtain ⟨A', n', c', hcs, hor⟩ := trod_rows Try.underlying29 cells31 (by omega) hy
    simp only [List.cons.injEq, Value.slice.injEq, and_true] at hcs
    obtain ⟨rfl, rfl, rfl⟩ := hcs
    rcases hor with rfl | ⟨b, off, rfl, D, m', hD, hwt⟩
    · exact ⟨.mk k z t [], A, c, rfl, .inl rfl, .mk htz (by simp) (by simp)⟩
    · obtain ⟨hn, hwi⟩ := hwt hwy
      rw [bytes31] at hn
      have hrb := reach_le
      have each : ∀ i, i < n → ∃ q : T, (∃ A c, W.cell? ⟨b, off + i * 4, none⟩ = some (.int .i64 q.k) ∧ W.cell? ⟨b, off + i * 4 + 1, none⟩ = some (.int .i64 q.z) ∧ W.cell? ⟨b, off + i * 4 + 2, none⟩ = some (.string q.t) ∧ W.cell? ⟨b, off + i * 4 + 3, none⟩ = some (.slice A q.l.length c) ∧ RdT W A q) ∧ Opd q := by
        intro i hi
        obtain ⟨cs, hl, hc, hd, hsz⟩ := hD i hi
        obtain ⟨q, A', c', rfl, hr, ho⟩ := ih (by omega) hd (hwi i hi)
        exact ⟨q, ⟨A', c', hc 0 (by omega), hc 1 (by omega), hc 2 (by omega), hc 3 (by omega), hr⟩, ho⟩
      obtain ⟨f, hf⟩ := choose_lt each
      refine ⟨.mk k z t ((List.range' 0 n).map f), some ⟨b, off, none⟩, c, by simp [T.l, T.k, T.z, T.t], .inr ⟨b, off, rfl, row_of n off 0 fun i hi => by simpa using (hf i hi).1⟩, .mk htz (by simp; omega) fun q hq => ?_⟩
      obtain ⟨i, hi, rfl⟩ := List.mem_map.1 hq
      exact (hf i (by simpa using hi)).2
/-- A letter as it may stand among the arguments. -/
structure Opl (x : Lt) : Prop where
  rep : Opd x.rep
  args : x.args.length ≤ 140737488355328
  each : ∀ s ∈ x.args, s.size ≤ 140737488355328
  ky : x.key.size ≤ 140737488355328
  tx : x.text.size ≤ 140737488355328
/-- A letter, read. -/
theorem letter_of {fuel : Nat} {cs : List Value} {x : DataW H × List MemPlace} (h : DataW.trod enc Try.prog W 0 (fun _ => true) true fuel 33 cs = some x) (hw : ∀ n ∈ x.1.weights Try.prog 33, n ≤ reachBytes) :
    ∃ (l : Lt) (o : Wh), cs = ltC l o ∧ LtO W l o ∧ Opl l := by
  obtain ⟨xs, k, hk, hxy, hlen, hxl, hf⟩ := DataW.trod_struct Try.underlying33 h
  rw [cells33] at hlen
  match xs, hxl, cs, hlen with
  | [y0, y1, y2, y3, y4, y5, y6, y7, y8, y9], _, [v0, v1, v2, v3, v4, v5, v6, v7, v8, v9, v10, v11, v12], _ =>
    have g0 := hf 0 _ rfl
    have g1 := hf 1 _ rfl
    have g2 := hf 2 _ rfl
    have g3 := hf 3 _ rfl
    have g4 := hf 4 _ rfl
    have g5 := hf 5 _ rfl
    have g6 := hf 6 _ rfl
    have g7 := hf 7 _ rfl
    have g8 := hf 8 _ rfl
    have g9 := hf 9 _ rfl
    simp [cellsI, cells28, cellsS, cellsB, cells31] at g0 g1 g2 g3 g4 g5 g6 g7 g8 g9
    obtain ⟨n0, e0, _, _⟩ := DataW.trod_int Try.underlying3 g0
    obtain ⟨n1, e1, _, _⟩ := DataW.trod_int Try.underlying3 g1
    obtain ⟨n2, e2, _, _⟩ := DataW.trod_int Try.underlying3 g2
    obtain ⟨n3, e3, _, _⟩ := DataW.trod_int Try.underlying3 g3
    obtain ⟨s4, e4, hy4, _⟩ := DataW.trod_string Try.underlying9 g4
    obtain ⟨s5, e5, hy5, _⟩ := DataW.trod_string Try.underlying9 g5
    obtain ⟨A6, l6, c6, e6, hr6, hw6⟩ := trod_texts g6
    obtain ⟨b8, e8, _⟩ := DataW.trod_bool Try.underlying4 g8
    obtain ⟨n9, e9, _, _⟩ := DataW.trod_int Try.underlying3 g9
    subst hxy
    have w4 := agg_w Try.underlying33 hw (i := 4) rfl rfl
    have w5 := agg_w Try.underlying33 hw (i := 5) rfl rfl
    have w6 := agg_w Try.underlying33 hw (i := 6) rfl rfl
    have w7 := agg_w Try.underlying33 hw (i := 7) rfl rfl
    subst hy4 hy5
    obtain ⟨y, A7, c7, e7, hr7, ho7⟩ := tree_of _ (Nat.le_refl _) g7 w7
    simp at e0 e1 e2 e3 e4 e5 e6 e7 e8 e9
    obtain ⟨e70, e71, e72, e73⟩ := e7
    subst e0 e1 e2 e3 e4 e5 e6 e70 e71 e72 e73 e8 e9
    exact ⟨⟨n0, n1, n2, n3, s4, s5, l6, y, b8, n9⟩, ⟨A6, c6, A7, c7⟩, rfl, ⟨hr6, hr7⟩, ⟨ho7, (hw6 w6).1, (hw6 w6).2, str_w w4, str_w w5⟩⟩
/-- A call. -/
structure Ox where
  kind : Int
  way : En
  x : Lt
instance : Inhabited Ox := ⟨⟨0, (0, 0), Lt.zero⟩⟩
def OxAt (w : World) (b off : Nat) (p : Ox) : Prop := w.cell? ⟨b, off, none⟩ = some (.int .i64 p.kind) ∧ w.cell? ⟨b, off + 1, none⟩ = some (.int .i64 p.way.1) ∧ w.cell? ⟨b, off + 2, none⟩ = some (.int .i64 p.way.2) ∧ ∃ o, LtO w p.x o ∧ ∀ j u, (ltC p.x o)[j]? = some u → w.cell? ⟨b, off + 3 + j, none⟩ = some u
theorem OxAt.keeps {w w' : World} {b off : Nat} {p : Ox} (h : OxAt w b off p) (hk : Keeps w w') : OxAt w' b off p := by
  obtain ⟨h1, h2, h3, o, h4, h5⟩ := h
  exact ⟨hk _ _ h1, hk _ _ h2, hk _ _ h3, o, h4.keeps hk, fun j u e => hk _ _ (h5 j u e)⟩
/-- A row of calls. -/
def RdX (w : World) (A : Option Addr) (l : List Ox) : Prop := l = [] ∨ ∃ b off, A = some ⟨b, off, none⟩ ∧ ∀ i (h : i < l.length), OxAt w b (off + i * 16) l[i]
theorem RdX.keeps {w w' : World} {A : Option Addr} {l : List Ox} (h : RdX w A l) (hk : Keeps w w') : RdX w' A l := by
  rcases h with h | ⟨b, off, e, h⟩
  · exact .inl h
  · exact .inr ⟨b, off, e, fun i hi => (h i hi).keeps hk⟩
theorem RdX.row {w : World} {A : Option Addr} {l : List Ox} (h : RdX w A l) (hl : 0 < l.length) : ∃ b off, A = some ⟨b, off, none⟩ ∧ ∀ i (h : i < l.length), OxAt w b (off + i * 16) l[i] := by
  rcases h with h | h
  · simp [h] at hl
  · exact h
/-- A call, read. -/
theorem op_of {fuel : Nat} {cs : List Value} {x : DataW H × List MemPlace} (h : DataW.trod enc Try.prog W 0 (fun _ => true) true fuel 35 cs = some x) (hw : ∀ n ∈ x.1.weights Try.prog 35, n ≤ reachBytes) :
    ∃ (p : Ox) (o : Wh), cs = .int .i64 p.kind :: .int .i64 p.way.1 :: .int .i64 p.way.2 :: ltC p.x o ∧ p.way.wf ∧ LtO W p.x o ∧ Opl p.x := by
  obtain ⟨xs, k, hk, hxy, hlen, hxl, hf⟩ := DataW.trod_struct Try.underlying35 h
  rw [cells35] at hlen
  match xs, hxl, cs, hlen with
  | [y0, y1, y2, y3], _, [u0, u1, u2, v0, v1, v2, v3, v4, v5, v6, v7, v8, v9, v10, v11, v12], _ =>
    have g0 := hf 0 _ rfl
    have g1 := hf 1 _ rfl
    have g2 := hf 2 _ rfl
    have g3 := hf 3 _ rfl
    simp [cellsI, cells33] at g0 g1 g2 g3
    obtain ⟨n0, e0, _, _⟩ := DataW.trod_int Try.underlying3 g0
    obtain ⟨n1, e1, _, q1⟩ := DataW.trod_int Try.underlying3 g1
    obtain ⟨n2, e2, _, q2⟩ := DataW.trod_int Try.underlying3 g2
    subst hxy
    have w3 := agg_w Try.underlying35 hw (i := 3) rfl rfl
    obtain ⟨l, o, e3, hl, hq⟩ := letter_of g3 w3
    simp at e0 e1 e2
    subst e0 e1 e2
    exact ⟨⟨n0, (n1, n2), l⟩, o, by rw [← e3], ⟨q1, q2⟩, hl, hq⟩
/-- A row of calls, read. -/
theorem ops_of {fuel : Nat} {v : Value} {x : DataW H × List MemPlace} (h : DataW.trod enc Try.prog W 0 (fun _ => true) true fuel 22 [v] = some x) (hw : ∀ n ∈ x.1.weights Try.prog 22, n ≤ reachBytes) :
    ∃ A l c, v = .slice A l.length c ∧ RdX W A l ∧ (∀ p ∈ l, p.way.wf ∧ Opl p.x) ∧ (l.length ≤ 140737488355328) := by
  obtain ⟨A, n, c, hcs, hor⟩ := trod_rows Try.underlying22 cells35 (by omega) h
  simp only [List.cons.injEq, and_true] at hcs
  subst hcs
  rcases hor with rfl | ⟨b, off, rfl, D, m', hD, hwt⟩
  · exact ⟨A, [], c, rfl, .inl rfl, (fun p hp => absurd hp (by simp)), Nat.zero_le _⟩
  · obtain ⟨hn, hwi⟩ := hwt hw
    have hrb := reach_le
    have h184 : Try.prog.bytesOf 35 = 184 := by kernel_rfl
    have hb35 : 0 < Try.prog.bytesOf 35 := by omega
    have each : ∀ i, i < n → ∃ q : Ox, OxAt W b (off + i * 16) q ∧ q.way.wf ∧ Opl q.x := by
      intro i hi
      obtain ⟨cs, hl, hc, hd, hsz⟩ := hD i hi
      obtain ⟨q, o, rfl, hwf, hr, ho⟩ := op_of hd (hwi i hi)
      refine ⟨q, ⟨hc 0 (by omega), hc 1 (by omega), hc 2 (by omega), o, hr, fun j u e => ?_⟩, hwf, ho⟩
      have hj : j < 13 := by have := (List.getElem?_eq_some_iff.1 e).1; rwa [ltC_len] at this
      have := hc (3 + j) (by omega)
      rw [show off + i * 16 + 3 + j = off + i * 16 + (3 + j) by omega, this, ← e, Nat.add_comm 3 j]
      rfl
    obtain ⟨f, hf⟩ := choose_lt each
    refine ⟨some ⟨b, off, none⟩, (List.range n).map f, c, by simp, .inr ⟨b, off, rfl, fun i hi => ?_⟩, fun p hp => ?_, ?_⟩
    · have hi' : i < n := by simpa using hi
      simpa using (hf i hi').1
    · obtain ⟨i, hi, rfl⟩ := List.mem_map.1 hp
      exact (hf i (by simpa using hi)).2
    · have : n ≤ n * Try.prog.bytesOf 35 := Nat.le_mul_of_pos_right _ hb35
      simp; omega
end
end Go.Proofs.Ytmflalnajinejaa.T
