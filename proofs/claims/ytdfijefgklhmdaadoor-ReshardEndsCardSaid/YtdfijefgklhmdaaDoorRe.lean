import Derived.Deep.DeepCutAuto
import Derived.Laws.OwnMore
import Derived.OwnWalk
import Derived.Lib.AppendStr
import Derived.Lib.SliceRun
import Derived.Lib.SmallJoins
import Derived.IntWalk
import Derived.Lib.ItoaLen
import Derived.Test.YtdfijefgklhmdaaDoorProg
import Derived.Test.YtdfijefgklhmdaaDoorShelf
import Derived.Test.YtdfijefgklhmdaaDoorMem
import Derived.Test.YtdfijefgklhmdaaDoorR1
import Derived.Test.YtdfijefgklhmdaaDoorRa
import Derived.Test.YtdfijefgklhmdaaDoorRb
import Derived.Test.YtdfijefgklhmdaaDoorRc
import Derived.WalkKit
import Derived.Outline
import Derived.WalkLawsBesides
import Derived.Deep.QuietTactic
import Derived.BigQuiet
import Derived.Lib.Hide
import Derived.Handy
import Derived.Deep.RegionHeld3
import Derived.Deep.DrawnRows
import Derived.KernelRfl
import Derived.Great.Walk
import Derived.Test.YtdfijefgklhmdaaDoorOwn
namespace Go.Proofs.YtdfijefgklhmdaaDoor.T
open Go Go.RowKit Go.Sort Mem Own
set_option maxRecDepth 100000
set_option maxHeartbeats 1000000
set_option linter.unusedVariables false
set_option linter.unusedSimpArgs false

theorem heap_drewN {w : World} {b : Nat} {o : Option Obj} (h : w.heap[b]? = o) (q : Nat) : (w.drewN q).heap[b]? = o := h
theorem facts7 {w : World} {b T : Nat} {v0 v1 v2 v3 v4 v5 v6 : Value} (h : w.heap[b]? = some (.cells #[v0, v1, v2, v3, v4, v5, v6] T (0, 0))) :
    w.cell? ⟨b, 0, none⟩ = some v0 ∧ w.cell? ⟨b, 1, none⟩ = some v1 ∧ w.cell? ⟨b, 2, none⟩ = some v2 ∧ w.cell? ⟨b, 3, none⟩ = some v3 ∧ w.cell? ⟨b, 4, none⟩ = some v4 ∧ w.cell? ⟨b, 5, none⟩ = some v5 ∧ w.cell? ⟨b, 6, none⟩ = some v6 :=
  ⟨of_blk h 0, of_blk h 1, of_blk h 2, of_blk h 3, of_blk h 4, of_blk h 5, of_blk h 6⟩
theorem free7 {w : World} {b T : Nat} {v0 v1 v2 v3 v4 v5 v6 : Value} (h : w.heap[b]? = some (.cells #[v0, v1, v2, v3, v4, v5, v6] T (0, 0))) :
    w.frozen? ⟨b, 0, none⟩ = false ∧ w.frozen? ⟨b, 1, none⟩ = false ∧ w.frozen? ⟨b, 2, none⟩ = false ∧ w.frozen? ⟨b, 3, none⟩ = false ∧ w.frozen? ⟨b, 4, none⟩ = false ∧ w.frozen? ⟨b, 5, none⟩ = false ∧ w.frozen? ⟨b, 6, none⟩ = false :=
  ⟨of_blk_free h 0, of_blk_free h 1, of_blk_free h 2, of_blk_free h 3, of_blk_free h 4, of_blk_free h 5, of_blk_free h 6⟩
theorem set7 {w : World} {b T : Nat} {v0 v1 v2 v3 v4 v5 v6 : Value} (u0 u1 u2 u3 u4 u5 u6 : Value) (h : w.heap[b]? = some (.cells #[v0, v1, v2, v3, v4, v5, v6] T (0, 0))) :
    (((((((w.setCell ⟨b, 0, none⟩ u0).setCell ⟨b, 1, none⟩ u1).setCell ⟨b, 2, none⟩ u2).setCell ⟨b, 3, none⟩ u3).setCell ⟨b, 4, none⟩ u4).setCell ⟨b, 5, none⟩ u5).setCell ⟨b, 6, none⟩ u6).heap[b]? = some (.cells #[u0, u1, u2, u3, u4, u5, u6] T (0, 0)) := by
  have h1 := heap_set (i := 0) h u0
  have h2 := heap_set (i := 1) h1 u1
  have h3 := heap_set (i := 2) h2 u2
  have h4 := heap_set (i := 3) h3 u3
  have h5 := heap_set (i := 4) h4 u4
  have h6 := heap_set (i := 5) h5 u5
  have h7 := heap_set (i := 6) h6 u6
  simpa using h7
theorem below_s7 {B b : Nat} {w w1 : World} {u0 u1 u2 u3 u4 u5 u6 : Value} (h : Below B w w1) (hb : B ≤ b) :
    Below B w (((((((w1.setCell ⟨b, 0, none⟩ u0).setCell ⟨b, 1, none⟩ u1).setCell ⟨b, 2, none⟩ u2).setCell ⟨b, 3, none⟩ u3).setCell ⟨b, 4, none⟩ u4).setCell ⟨b, 5, none⟩ u5).setCell ⟨b, 6, none⟩ u6) :=
  ((((((h.setCell hb _).setCell hb _).setCell hb _).setCell hb _).setCell hb _).setCell hb _).setCell hb _
theorem end72 {fn : Func} {R : Ending → World → Prop} {tmps : Array Value} {w : World} {b T : Nat} {v0 v1 v2 v3 v4 v5 v6 u : Value} (hres : fn.results = #[ResultVar.cell 6 32, ResultVar.tmp 7])
    (h2 : tmps[6]?.getD undef = .pointer (some ⟨b, 0, none⟩)) (h3 : tmps[7]?.getD undef = u) (hb : w.heap[b]? = some (.cells #[v0, v1, v2, v3, v4, v5, v6] T (0, 0)))
    (hR : R (.returned (.tuple #[.agg #[v0, v1, v2, v3, v4, v5, v6], u])) w) : bodyPost Tryd.prog fn R .ret { tmps := tmps, defers := [] } w := by
  obtain ⟨g0, g1, g2, g3, g4, g5, g6⟩ := facts7 hb
  refine bodyPost_ret (v := .tuple #[.agg #[v0, v1, v2, v3, v4, v5, v6], u]) ?_ rfl hR
  simp [results, hres, go_sem, h2, h3, g0, g1, g2, g3, g4, g5, g6]
/-- A driver of the document, as a value. -/
def rdV (P : Option Addr) (n c : Nat) (B T call : Int) (Q : Option Addr) (qn qc : Nat) (ep : Int) (fl : Bool) : Value := .agg #[.slice P n c, .int .i64 B, .int .i64 T, .int .i64 call, .slice Q qn qc, .int .i64 ep, .bool fl]
/-- What ref20.New leaves. -/
def RNewOut (A : Option Addr) (l : List Mv) (c : Nat) (B T : Int) (w : World) (e : Ending) (w' : World) : Prop :=
  ((newErr l B T ≠ 0 ∧ e = .returned (.tuple #[rdV none 0 0 0 0 0 none 0 0 0 false, .int .i64 (newErr l B T)])) ∨ (newErr l B T = 0 ∧ e = .returned (.tuple #[rdV A l.length c B T 1 none 0 0 0 false, .int .i64 0]))) ∧ Below w.heap.size w w'
theorem rnew_bad {A : Option Addr} {c0 : Nat} {l : List Mv} {B T c : Int} {w w' : World} (h : newErr l B T = c) (hc : c ≠ 0) (hb : Below w.heap.size w w') : RNewOut A l c0 B T w (.returned (.tuple #[rdV none 0 0 0 0 0 none 0 0 0 false, .int .i64 c])) w' :=
  ⟨.inl ⟨by rw [h]; exact hc, by rw [h]⟩, hb⟩
/-- ref20.New -/
theorem rnew_is (A : Option Addr) (l : List Mv) (c : Nat) (B T : Int) (w : World) (ha : RdM w A l) (hcm : l.length ≤ maxLen) : Calls Tryd.prog 10 #[.slice A l.length c, .int .i64 B, .int .i64 T] w (RNewOut A l c B T w) := by
  have HA := Lib.hid ha
  clear ha
  have HZ0 := Lib.hid (heap_alloc_new w (.cells #[.slice none 0 0, .int .i64 0, .int .i64 0, .int .i64 0, .slice none 0 0, .int .i64 0, .bool false] 32))
  have HB0 := Lib.hid ((Below.refl w.heap.size w).alloc (Nat.le_refl _) (.cells #[.slice none 0 0, .int .i64 0, .int .i64 0, .int .i64 0, .slice none 0 0, .int .i64 0, .bool false] 32))
  by_cases hlong : 1000 < l.length
  · have HE := Lib.hid (newErr_long (B := B) (T := T) hlong)
    go_enter Tryd.func10, Tryd.ntmps10
    go_wp2
    exact bodyPost_ret (v := .tuple #[rdV none 0 0 0 0 0 none 0 0 0 false, .int .i64 200]) (by simp [results, Tryd.results10, go_sem, rdV]) rfl (rnew_bad HE.out (by decide) HB0.out)
  · have hshort : l.length ≤ 1000 := by omega
    obtain ⟨N, hN⟩ : ∃ N, N = l.length := ⟨_, rfl⟩
    have HN := Lib.hid hN
    rw [← hN] at hcm hshort hlong
    rw [← hN]
    clear hN
    go_enter Tryd.func10, Tryd.ntmps10
    go_wp2_with fail
    go_loopw [8] (fun x wr => ∃ i : Nat, i ≤ N ∧ x = .int .i64 i ∧ RowKit.Hid (∀ j, j < i → okAt l j) ∧ RowKit.Hid (wr.heap[w.heap.size]? = some (.cells #[.slice none 0 0, .int .i64 0, .int .i64 0, .int .i64 0, .slice none 0 0, .int .i64 0, .bool false] 32 (0, 0))) ∧ RowKit.Hid (Below w.heap.size w wr)) (fun x _ => N - (intOf x).toNat)
    case atStart => exact ⟨0, Nat.zero_le _, rfl, Lib.hid (fun j h => by omega), HZ0, HB0⟩
    case round =>
      obtain ⟨i, hi, rfl, HOK, HZ, HB⟩ := hrel
      have hzr := HB.out.size
      have hzz := lt_of_block HZ.out
      obtain ⟨z0, z1, z2, z3, z4, z5, z6⟩ := facts7 HZ.out
      obtain ⟨f0, f1, f2, f3, f4, f5, f6⟩ := free7 HZ.out
      by_cases hlt : i < N
      · have hlt2 := Lib.hid (show i < l.length by rw [← HN.out]; exact hlt)
        obtain ⟨b, off, rfl⟩ := HA.out.addr (Nat.zero_lt_of_lt hlt2.out)
        obtain ⟨g0, g1, g2⟩ := (HA.out.below HB.out).cell hlt2.out
        have HBad := Lib.hid (fun h => newErr_bad (B := B) (T := T) hlt2.out h)
        have HStep := Lib.hid (show okM (l[i]'hlt2.out) ∧ (¬ ∃ m' ∈ l.take i, m'.s = (l[i]'hlt2.out).s) → ∀ j, j < i + 1 → okAt l j from fun h j hj => by
          rcases Nat.lt_succ_iff_lt_or_eq.1 hj with h' | rfl
          · exact HOK.out j h'
          · intro m hm
            rw [List.getElem?_eq_getElem hlt2.out] at hm
            injection hm with hm
            rw [← hm]; exact h)
        obtain ⟨m, hm⟩ : ∃ m, m = l[i]'hlt2.out := ⟨_, rfl⟩
        rw [← hm] at g0 g1 g2 HBad HStep
        obtain ⟨s, f, t⟩ := m
        dsimp only at g0 g1 g2 HBad HStep
        clear hm
        go_upto_region 6 with fail
        go_cut [9] (fun s9 wx => ∃ b9 : Nat, s9 = .pointer (some ⟨b9, 0, none⟩) ∧ RowKit.Hid (wx.heap[b9]? = some (.cells #[.int .i64 s, .int .i64 f, .int .i64 t] 37 (0, 0))) ∧ RowKit.Hid (wx.heap[w.heap.size]? = some (.cells #[.slice none 0 0, .int .i64 0, .int .i64 0, .int .i64 0, .slice none 0 0, .int .i64 0, .bool false] 32 (0, 0))) ∧ RowKit.Hid (Below w.heap.size w wx))
        case first =>
          go_wp2
          go_meet
          exact ⟨_, rfl, Lib.hid (heap_alloc_new wr _), Lib.hid (keep_block ((Below.refl _ _).alloc (Nat.le_refl _) _) HZ.out), Lib.hid (HB.out.alloc hzr _)⟩
        case rest =>
        obtain ⟨b9, rfl, HX, HZ1, HB1⟩ := hcut
        clear g0 g1 g2 z0 z1 z2 z3 z4 z5 z6 f0 f1 f2 f3 f4 f5 f6
        obtain ⟨x0, x1, x2⟩ := facts3 HX.out
        obtain ⟨z0, z1, z2, z3, z4, z5, z6⟩ := facts7 HZ1.out
        obtain ⟨f0, f1, f2, f3, f4, f5, f6⟩ := free7 HZ1.out
        by_cases k1 : s < 0
        · go_wp2
          refine end72 (u := .int .i64 200) Tryd.results10 ?_ ?_ (set7 _ _ _ _ _ _ _ HZ1.out) ?_
          · rfl
          · rfl
          · exact rnew_bad (HBad.out (fun h => (by have := h.1.1; dsimp only at this; omega))) (by decide) (below_s7 HB1.out (Nat.le_refl _))
        by_cases k2 : 16383 < s
        · go_wp2
          refine end72 (u := .int .i64 200) Tryd.results10 ?_ ?_ (set7 _ _ _ _ _ _ _ HZ1.out) ?_
          · rfl
          · rfl
          · exact rnew_bad (HBad.out (fun h => (by have := h.1.2.1; dsimp only at this; omega))) (by decide) (below_s7 HB1.out (Nat.le_refl _))
        by_cases k3 : f < 0
        · go_wp2
          refine end72 (u := .int .i64 200) Tryd.results10 ?_ ?_ (set7 _ _ _ _ _ _ _ HZ1.out) ?_
          · rfl
          · rfl
          · exact rnew_bad (HBad.out (fun h => (by have := h.1.2.2.1.1; dsimp only at this; omega))) (by decide) (below_s7 HB1.out (Nat.le_refl _))
        by_cases k4 : 63 < f
        · go_wp2
          refine end72 (u := .int .i64 200) Tryd.results10 ?_ ?_ (set7 _ _ _ _ _ _ _ HZ1.out) ?_
          · rfl
          · rfl
          · exact rnew_bad (HBad.out (fun h => (by have := h.1.2.2.1.2; dsimp only at this; omega))) (by decide) (below_s7 HB1.out (Nat.le_refl _))
        by_cases k5 : t < 0
        · go_wp2
          refine end72 (u := .int .i64 200) Tryd.results10 ?_ ?_ (set7 _ _ _ _ _ _ _ HZ1.out) ?_
          · rfl
          · rfl
          · exact rnew_bad (HBad.out (fun h => (by have := h.1.2.2.2.1.1; dsimp only at this; omega))) (by decide) (below_s7 HB1.out (Nat.le_refl _))
        by_cases k6 : 63 < t
        · go_wp2
          refine end72 (u := .int .i64 200) Tryd.results10 ?_ ?_ (set7 _ _ _ _ _ _ _ HZ1.out) ?_
          · rfl
          · rfl
          · exact rnew_bad (HBad.out (fun h => (by have := h.1.2.2.2.1.2; dsimp only at this; omega))) (by decide) (below_s7 HB1.out (Nat.le_refl _))
        by_cases k7 : f = t
        · subst k7
          go_wp2
          refine end72 (u := .int .i64 200) Tryd.results10 ?_ ?_ (set7 _ _ _ _ _ _ _ HZ1.out) ?_
          · rfl
          · rfl
          · exact rnew_bad (HBad.out (fun h => h.1.2.2.2.2 rfl)) (by decide) (below_s7 HB1.out (Nat.le_refl _))
        have k7b : (f == t) = false := by simp [k7]
        have HM := Lib.hid (show okM ⟨s, f, t⟩ from ⟨by dsimp only; omega, by dsimp only; omega, ⟨by dsimp only; omega, by dsimp only; omega⟩, ⟨by dsimp only; omega, by dsimp only; omega⟩, k7⟩)
        go_wp2_with fail
        clear x0 x1 x2 z0 z1 z2 z3 z4 z5 z6 f0 f1 f2 f3 f4 f5 f6
        go_loopw [10] (fun x wi => ∃ k : Nat, k ≤ i ∧ x = .int .i64 k ∧ RowKit.Hid (∀ m' ∈ l.take k, m'.s ≠ s) ∧ RowKit.Hid (wi.heap[b9]? = some (.cells #[.int .i64 s, .int .i64 f, .int .i64 t] 37 (0, 0))) ∧ RowKit.Hid (wi.heap[w.heap.size]? = some (.cells #[.slice none 0 0, .int .i64 0, .int .i64 0, .int .i64 0, .slice none 0 0, .int .i64 0, .bool false] 32 (0, 0))) ∧ RowKit.Hid (Below w.heap.size w wi)) (fun x _ => i - (intOf x).toNat)
        case atStart => exact ⟨0, Nat.zero_le _, rfl, Lib.hid (by simp), HX, HZ1, HB1⟩
        case round =>
          obtain ⟨k, hk, rfl, HNO, HXi, HZi, HBi⟩ := hrel
          obtain ⟨x0, x1, x2⟩ := facts3 HXi.out
          obtain ⟨z0, z1, z2, z3, z4, z5, z6⟩ := facts7 HZi.out
          obtain ⟨f0, f1, f2, f3, f4, f5, f6⟩ := free7 HZi.out
          by_cases hlk : k < i
          · have hk2 := Lib.hid (show k < l.length by have := hlt2.out; omega)
            obtain ⟨y0, -, -⟩ := (HA.out.below HBi.out).cell hk2.out
            have HTK := Lib.hid (show l.take (k + 1) = l.take k ++ [l[k]'hk2.out] from List.take_succ_eq_append_getElem hk2.out)
            have HMem := Lib.hid (show l[k]'hk2.out ∈ l.take i from List.mem_iff_getElem.2 ⟨k, by simp; have := hk2.out; omega, by simp⟩)
            obtain ⟨q, hq⟩ : ∃ q, q = l[k]'hk2.out := ⟨_, rfl⟩
            rw [← hq] at y0 HTK HMem
            obtain ⟨qs, qf, qt⟩ := q
            dsimp only at y0
            clear hq
            have hkN : k < N := by omega
            by_cases he : qs = s
            · subst he
              have HE2 := Lib.hid (HBad.out (fun h => h.2 ⟨_, HMem.out, rfl⟩))
              go_wp2
              go_quiet (fail)
              go_wp2
              refine end72 (u := .int .i64 200) Tryd.results10 ?_ ?_ (set7 _ _ _ _ _ _ _ (heap_drewN HZi.out _)) ?_
              · rfl
              · rfl
              · exact rnew_bad (HE2.out) (by decide) (below_s7 (Go.below_drewN HBi.out _) (Nat.le_refl _))
            · have heb : (qs == s) = false := by simp [he]
              have HNN := Lib.hid (show ∀ m' ∈ l.take (k + 1), m'.s ≠ s by
                intro m' hm'
                rw [HTK.out] at hm'
                rcases List.mem_append.1 hm' with h | h
                · exact HNO.out m' h
                · rw [List.mem_singleton.1 h]; exact he)
              go_wp2
              go_quiet (fail)
              go_wp2
              exact ⟨⟨k + 1, by omega, by go_num, HNN, Lib.hid (heap_drewN HXi.out _), Lib.hid (heap_drewN HZi.out _), Lib.hid (Go.below_drewN HBi.out _)⟩, by simp [intOf]; omega⟩
          · obtain rfl : k = i := by omega
            have HS := Lib.hid (HStep.out ⟨HM.out, fun ⟨m', h1, h2⟩ => HNO.out m' h1 h2⟩)
            go_wp2
            exact ⟨⟨k + 1, by omega, by go_num, HS, HZi, HBi⟩, by simp [intOf]; omega⟩
      · have HP := Lib.hid (show okP l from fun j hj => HOK.out j (by rw [← HN.out] at hj; omega))
        have HL1 := Lib.hid (show l.length ≤ 1000 by rw [← HN.out]; exact hshort)
        by_cases b1 : B < 1
        · have HE := Lib.hid (newErr_arg (B := B) (T := T) HL1.out HP.out (.inl b1))
          go_wp2
          refine end72 (u := .int .i64 1) Tryd.results10 ?_ ?_ (set7 _ _ _ _ _ _ _ HZ.out) ?_
          · rfl
          · rfl
          · exact rnew_bad (HE.out) (by decide) (below_s7 HB.out (Nat.le_refl _))
        by_cases b2 : 100 < B
        · have HE := Lib.hid (newErr_arg (B := B) (T := T) HL1.out HP.out (.inr (.inl b2)))
          go_wp2
          refine end72 (u := .int .i64 1) Tryd.results10 ?_ ?_ (set7 _ _ _ _ _ _ _ HZ.out) ?_
          · rfl
          · rfl
          · exact rnew_bad (HE.out) (by decide) (below_s7 HB.out (Nat.le_refl _))
        by_cases b3 : T < 0
        · have HE := Lib.hid (newErr_arg (B := B) (T := T) HL1.out HP.out (.inr (.inr (.inl b3))))
          go_wp2
          refine end72 (u := .int .i64 1) Tryd.results10 ?_ ?_ (set7 _ _ _ _ _ _ _ HZ.out) ?_
          · rfl
          · rfl
          · exact rnew_bad (HE.out) (by decide) (below_s7 HB.out (Nat.le_refl _))
        by_cases b4 : 549755813888 < T
        · have HE := Lib.hid (newErr_arg (B := B) (T := T) HL1.out HP.out (.inr (.inr (.inr b4))))
          go_wp2
          refine end72 (u := .int .i64 1) Tryd.results10 ?_ ?_ (set7 _ _ _ _ _ _ _ HZ.out) ?_
          · rfl
          · rfl
          · exact rnew_bad (HE.out) (by decide) (below_s7 HB.out (Nat.le_refl _))
        have HE := Lib.hid (newErr_ok (B := B) (T := T) HL1.out HP.out (by unfold badBT; omega))
        go_wp2
        refine end72 (u := .int .i64 0) Tryd.results10 ?_ ?_ (set7 _ _ _ _ _ _ _ HZ.out) ?_
        · rfl
        · rfl
        · exact ⟨.inr ⟨HE.out, by rw [← HN.out]; rfl⟩, below_s7 HB.out (Nat.le_refl _)⟩
end Go.Proofs.YtdfijefgklhmdaaDoor.T
