import Derived.Deep.DeepCutAuto
import Derived.Laws.OwnMore
import Derived.OwnWalk
import Derived.Lib.AppendStr
import Derived.Lib.SliceRun
import Derived.Lib.SmallJoins
import Derived.IntWalk
import Derived.WalkMore
import Derived.Lib.OthersKept
import Derived.Deep.LoopGhost
import Derived.Deep.RegionLaw
import Derived.Deep.AppendLies
import Derived.Test.YtmflalnajinejaaProg
import Derived.Test.YtmflalnajinejaaMem
import Derived.Test.YtmflalnajinejaaBlk
import Derived.Test.YtmflalnajinejaaAp
import Derived.Test.YtmflalnajinejaaKa
import Derived.Test.YtmflalnajinejaaKd
import Derived.Test.YtmflalnajinejaaKh
import Derived.Test.YtmflalnajinejaaKl
import Derived.Test.YtmflalnajinejaaOwn
import Derived.WalkKit
import Derived.Outline
import Derived.WalkLawsBesides
import Derived.Deep.QuietTactic
import Derived.BigQuiet
import Derived.Lib.Hide
import Derived.Handy
import Derived.Deep.RegionHeld3
import Derived.Deep.DrawnRows
import Derived.KernelRfl
import Derived.Great.Walk
import Derived.Test.YtmflalnajinejaaOwn
namespace Go.Proofs.Ytmflalnajinejaa.T
open Go Go.RowKit Go.Sort Mem Own
set_option maxRecDepth 100000
set_option maxHeartbeats 1000000
set_option linter.unusedVariables false
set_option linter.unusedSimpArgs false

open Go.WideMaps Go.Maps
theorem new_is (w : World) : Calls Try.prog 8 #[] w fun e w' => ∃ g b, e = .returned (.pointer (some ⟨g, 0, none⟩)) ∧ LK w' g b 0 (fun _ => []) ∧ Below w.heap.size w w' ∧ w.heap.size ≤ g ∧ w.heap.size ≤ b := by
  have h1 : LM ((w.alloc (.map #[] 0)).alloc (.cells #[.map (some w.heap.size)] 53)) w.heap.size 0 (fun _ => none) := (LM.made w).kept (World.grownBy_alloc _ _ none) (by simp)
  have h2 := heap_alloc_new (w.alloc (.map #[] 0)) (.cells #[.map (some w.heap.size)] 53)
  have hs : (w.alloc (.map #[] 0)).heap.size = w.heap.size + 1 := alloc_size _ _
  rw [hs] at h2
  have hmk : (Instr.makeMap 51 none).run Try.prog w = .ok (.map (some w.heap.size)) (w.alloc (.map #[] 0)) := rfl
  go_enter Try.func8, Try.ntmps8
  go_wp2
  go_ret
  refine ⟨w.heap.size + 1, w.heap.size, by simp, ⟨(cells1 h2), _, h1, fun x => ⟨by simp, .inl ⟨rfl, rfl⟩⟩⟩, ?_, by omega, by omega⟩
  exact ((Below.refl _ _).alloc (Nat.le_refl _) _).alloc (by omega) _
/-- What lies in the map under x. -/
theorem LK.look {w : World} {g b n : Nat} {Q : En → List Lt} (h : LK w g b n Q) {x : En} (hx : x.wf) :
    ∃ A c, (Instr.lookup 51 (.map (some b)) (enV x) false).run Try.prog w = .ok (.slice A (Q x).length c) w ∧ (Q x).length ≤ c ∧ c ≤ maxLen ∧ RdL w A (Q x) ∧ (Q x).length ≤ n := by
  obtain ⟨h1, m, h2, h3⟩ := h
  have h4 := h2.look hx
  obtain ⟨h5, ⟨h6, h7⟩ | ⟨A, c, h6, _, h8, h9, h10⟩⟩ := h3 x
  · rw [h6] at h4
    exact ⟨none, 0, by rw [h7]; exact h4, by rw [h7]; exact Nat.zero_le _, by decide, .inl h7, h5⟩
  · rw [h6] at h4
    exact ⟨A, c, h4, h8, h9, h10, h5⟩
theorem waiting_is (g b n : Nat) (Q : En → List Lt) (x y : Int) (w : World) (h : LK w g b n Q) (hx : En.wf (x, y)) :
    Calls Try.prog 17 #[.pointer (some ⟨g, 0, none⟩), .int .i64 x, .int .i64 y] w fun e w' => e = .returned (.int .i64 (Q (x, y)).length) ∧ w = w' := by
  have hc := h.cell
  obtain ⟨A, c, hrun, h1, h2, h3, h4⟩ := h.look hx
  generalize (Q (x, y)).length = N at hrun h1 h4 ⊢
  have hrun' : (Instr.lookup 51 (.map (some b)) (.agg #[.int .i64 x, .int .i64 y]) false).run Try.prog w = .ok (.slice A N c) w := hrun
  clear hrun
  go_enter Try.func17, Try.ntmps17
  go_wp2
  go_ret
  exact ⟨rfl, rfl⟩
theorem frees13 {w : World} {b T : Nat} {v0 v1 v2 v3 v4 v5 v6 v7 v8 v9 v10 v11 v12 : Value} (h : w.heap[b]? = some (.cells #[v0, v1, v2, v3, v4, v5, v6, v7, v8, v9, v10, v11, v12] T (0, 0))) :
    w.frozen? ⟨b, 0, none⟩ = false ∧ w.frozen? ⟨b, 1, none⟩ = false ∧ w.frozen? ⟨b, 2, none⟩ = false ∧ w.frozen? ⟨b, 3, none⟩ = false ∧ w.frozen? ⟨b, 4, none⟩ = false ∧ w.frozen? ⟨b, 5, none⟩ = false ∧ w.frozen? ⟨b, 6, none⟩ = false ∧ w.frozen? ⟨b, 7, none⟩ = false ∧ w.frozen? ⟨b, 8, none⟩ = false ∧ w.frozen? ⟨b, 9, none⟩ = false ∧ w.frozen? ⟨b, 10, none⟩ = false ∧ w.frozen? ⟨b, 11, none⟩ = false ∧ w.frozen? ⟨b, 12, none⟩ = false := ⟨of_blk_free h 0, of_blk_free h 1, of_blk_free h 2, of_blk_free h 3, of_blk_free h 4, of_blk_free h 5, of_blk_free h 6, of_blk_free h 7, of_blk_free h 8, of_blk_free h 9, of_blk_free h 10, of_blk_free h 11, of_blk_free h 12⟩
theorem sets13 {w : World} {b T : Nat} {v0 v1 v2 v3 v4 v5 v6 v7 v8 v9 v10 v11 v12 : Value} (u0 u1 u2 u3 u4 u5 u6 u7 u8 u9 u10 u11 u12 : Value) (h : w.heap[b]? = some (.cells #[v0, v1, v2, v3, v4, v5, v6, v7, v8, v9, v10, v11, v12] T (0, 0))) :
    (((((((((((((w.setCell ⟨b, 0, none⟩ u0).setCell ⟨b, 1, none⟩ u1).setCell ⟨b, 2, none⟩ u2).setCell ⟨b, 3, none⟩ u3).setCell ⟨b, 4, none⟩ u4).setCell ⟨b, 5, none⟩ u5).setCell ⟨b, 6, none⟩ u6).setCell ⟨b, 7, none⟩ u7).setCell ⟨b, 8, none⟩ u8).setCell ⟨b, 9, none⟩ u9).setCell ⟨b, 10, none⟩ u10).setCell ⟨b, 11, none⟩ u11).setCell ⟨b, 12, none⟩ u12).heap[b]? = some (.cells #[u0, u1, u2, u3, u4, u5, u6, u7, u8, u9, u10, u11, u12] T (0, 0)) := by
  have h1 := blk_set (i := 0) h u0
  have h2 := blk_set (i := 1) h1 u1
  have h3 := blk_set (i := 2) h2 u2
  have h4 := blk_set (i := 3) h3 u3
  have h5 := blk_set (i := 4) h4 u4
  have h6 := blk_set (i := 5) h5 u5
  have h7 := blk_set (i := 6) h6 u6
  have h8 := blk_set (i := 7) h7 u7
  have h9 := blk_set (i := 8) h8 u8
  have h10 := blk_set (i := 9) h9 u9
  have h11 := blk_set (i := 10) h10 u10
  have h12 := blk_set (i := 11) h11 u11
  have h13 := blk_set (i := 12) h12 u12
  simpa using h13
theorem below_sets13 {B b : Nat} {w0 w : World} {u0 u1 u2 u3 u4 u5 u6 u7 u8 u9 u10 u11 u12 : Value} (h : Below B w0 w) (hb : B ≤ b) : Below B w0 (((((((((((((w.setCell ⟨b, 0, none⟩ u0).setCell ⟨b, 1, none⟩ u1).setCell ⟨b, 2, none⟩ u2).setCell ⟨b, 3, none⟩ u3).setCell ⟨b, 4, none⟩ u4).setCell ⟨b, 5, none⟩ u5).setCell ⟨b, 6, none⟩ u6).setCell ⟨b, 7, none⟩ u7).setCell ⟨b, 8, none⟩ u8).setCell ⟨b, 9, none⟩ u9).setCell ⟨b, 10, none⟩ u10).setCell ⟨b, 11, none⟩ u11).setCell ⟨b, 12, none⟩ u12) := by
  have h1 := h.setCell (p := ⟨b, 0, none⟩) hb u0
  have h2 := h1.setCell (p := ⟨b, 1, none⟩) hb u1
  have h3 := h2.setCell (p := ⟨b, 2, none⟩) hb u2
  have h4 := h3.setCell (p := ⟨b, 3, none⟩) hb u3
  have h5 := h4.setCell (p := ⟨b, 4, none⟩) hb u4
  have h6 := h5.setCell (p := ⟨b, 5, none⟩) hb u5
  have h7 := h6.setCell (p := ⟨b, 6, none⟩) hb u6
  have h8 := h7.setCell (p := ⟨b, 7, none⟩) hb u7
  have h9 := h8.setCell (p := ⟨b, 8, none⟩) hb u8
  have h10 := h9.setCell (p := ⟨b, 9, none⟩) hb u9
  have h11 := h10.setCell (p := ⟨b, 10, none⟩) hb u10
  have h12 := h11.setCell (p := ⟨b, 11, none⟩) hb u11
  have h13 := h12.setCell (p := ⟨b, 12, none⟩) hb u12
  exact h13
theorem blk_sets13 {b k : Nat} {w : World} {o : Obj} {u0 u1 u2 u3 u4 u5 u6 u7 u8 u9 u10 u11 u12 : Value} (h : w.heap[k]? = some o) (hne : k ≠ b) : (((((((((((((w.setCell ⟨b, 0, none⟩ u0).setCell ⟨b, 1, none⟩ u1).setCell ⟨b, 2, none⟩ u2).setCell ⟨b, 3, none⟩ u3).setCell ⟨b, 4, none⟩ u4).setCell ⟨b, 5, none⟩ u5).setCell ⟨b, 6, none⟩ u6).setCell ⟨b, 7, none⟩ u7).setCell ⟨b, 8, none⟩ u8).setCell ⟨b, 9, none⟩ u9).setCell ⟨b, 10, none⟩ u10).setCell ⟨b, 11, none⟩ u11).setCell ⟨b, 12, none⟩ u12).heap[k]? = some o := by
  have h1 := blk_off (i := 0) (v := u0) hne h
  have h2 := blk_off (i := 1) (v := u1) hne h1
  have h3 := blk_off (i := 2) (v := u2) hne h2
  have h4 := blk_off (i := 3) (v := u3) hne h3
  have h5 := blk_off (i := 4) (v := u4) hne h4
  have h6 := blk_off (i := 5) (v := u5) hne h5
  have h7 := blk_off (i := 6) (v := u6) hne h6
  have h8 := blk_off (i := 7) (v := u7) hne h7
  have h9 := blk_off (i := 8) (v := u8) hne h8
  have h10 := blk_off (i := 9) (v := u9) hne h9
  have h11 := blk_off (i := 10) (v := u10) hne h10
  have h12 := blk_off (i := 11) (v := u11) hne h11
  have h13 := blk_off (i := 12) (v := u12) hne h12
  exact h13
theorem grown_below {w w1 w2 : World} {row : Option Nat} (h : w.grownBy w1 row) (hb : Below w.heap.size w1 w2) : w.grownBy w2 row :=
  ⟨hb.os.trans h.os, hb.tape.trans h.tape, hb.output.trans h.output, Nat.le_trans h.size hb.size, fun k hk hne => (hb.block k hk).trans (h.block k hk hne)⟩
/-- A queue whose front is taken. -/
def qpop (Q : En → List Lt) (x : En) : En → List Lt := fun y => if y = x then (Q x).drop 1 else Q y
def qadd (Q : En → List Lt) (x : En) (l : Lt) : En → List Lt := fun y => if y = x then Q x ++ [l] else Q y
theorem wp_ret_next {fn : Func} {p q : Nat} {tmps : Array Value} {w : World} {R : Ending → World → Prop} {b T : Nat} {v0 v1 v2 v3 v4 v5 v6 v7 v8 v9 v10 v11 v12 u1 : Value} (hfn : fn.results = #[.cell p 33, .tmp q])
    (h4 : tmps[p]?.getD undef = .pointer (some ⟨b, 0, none⟩)) (h5 : tmps[q]?.getD undef = u1) (hb : w.heap[b]? = some (.cells #[v0, v1, v2, v3, v4, v5, v6, v7, v8, v9, v10, v11, v12] T (0, 0)))
    (hR : R (.returned (.tuple #[.agg #[v0, v1, v2, v3, v4, v5, v6, v7, v8, v9, v10, v11, v12], u1])) w) : bodyPost Try.prog fn R .ret { tmps := tmps, defers := [] } w := by
  obtain ⟨c0, c1, c2, c3, c4, c5, c6, c7, c8, c9, c10, c11, c12⟩ := cells13 hb
  refine bodyPost_ret (v := .tuple #[.agg #[v0, v1, v2, v3, v4, v5, v6, v7, v8, v9, v10, v11, v12], u1]) ?_ rfl hR
  simp [results, hfn, go_sem, h4, h5, c0, c1, c2, c3, c4, c5, c6, c7, c8, c9, c10, c11, c12]
end Go.Proofs.Ytmflalnajinejaa.T
