import Derived.Deep.DeepCutAuto
import Derived.Laws.OwnMore
import Derived.OwnWalk
import Derived.Lib.AppendStr
import Derived.Lib.SliceRun
import Derived.Lib.SmallJoins
import Derived.IntWalk
import Derived.WalkMore
import Derived.Lib.OthersKept
import Derived.Deep.LoopGhost
import Derived.Deep.RegionLaw
import Derived.Deep.AppendLies
import Derived.Test.YtfdcacjfngjmdaaDoorProg
import Derived.Test.YtfdcacjfngjmdaaDoorMem
import Derived.Test.YtfdcacjfngjmdaaDoorBlk
import Derived.Test.YtfdcacjfngjmdaaDoorAp
import Derived.Test.YtfdcacjfngjmdaaDoorDz
import Derived.Test.YtfdcacjfngjmdaaDoorDv
import Derived.WalkKit
import Derived.Outline
import Derived.WalkLawsBesides
import Derived.Deep.QuietTactic
import Derived.BigQuiet
import Derived.Lib.Hide
import Derived.Handy
import Derived.Deep.RegionHeld3
import Derived.Deep.DrawnRows
import Derived.KernelRfl
import Derived.Great.Walk
import Derived.Test.YtfdcacjfngjmdaaDoorOwn
namespace Go.Proofs.YtfdcacjfngjmdaaDoor.T
open Go Go.RowKit Go.Sort Mem Own
set_option maxRecDepth 100000
set_option maxHeartbeats 1000000
set_option linter.unusedVariables false
set_option linter.unusedSimpArgs false

theorem ret_d {fn : Func} {p q : Nat} {tmps : Array Value} {w : World} {R : Ending → World → Prop} {b T : Nat} {v0 v1 v2 u : Value} (hfn : fn.results = #[.cell p 50, .tmp q])
    (h1 : tmps[p]?.getD undef = .pointer (some ⟨b, 0, none⟩)) (h2 : tmps[q]?.getD undef = u) (hb : w.heap[b]? = some (.cells #[v0, v1, v2] T (0, 0)))
    (hR : R (.returned (.tuple #[.agg #[v0, v1, v2], u])) w) : bodyPost Tryd.prog fn R .ret { tmps := tmps, defers := [] } w := by
  obtain ⟨c0, c1, c2⟩ := cells3 hb
  refine bodyPost_ret (v := .tuple #[.agg #[v0, v1, v2], u]) ?_ rfl hR
  simp [results, hfn, go_sem, h1, h2, c0, c1, c2]
theorem ret_d1 {fn : Func} {p : Nat} {tmps : Array Value} {w : World} {R : Ending → World → Prop} {b T : Nat} {v0 v1 v2 : Value} (hfn : fn.results = #[.cell p 50])
    (h1 : tmps[p]?.getD undef = .pointer (some ⟨b, 0, none⟩)) (hb : w.heap[b]? = some (.cells #[v0, v1, v2] T (0, 0)))
    (hR : R (.returned (.agg #[v0, v1, v2])) w) : bodyPost Tryd.prog fn R .ret { tmps := tmps, defers := [] } w := by
  obtain ⟨c0, c1, c2⟩ := cells3 hb
  refine bodyPost_ret (v := .agg #[v0, v1, v2]) ?_ rfl hR
  simp [results, hfn, go_sem, h1, c0, c1, c2]
theorem rnew_is (w : World) : Calls Tryd.prog 27 #[] w fun e w' => e = .returned (.agg #[.slice none 0 0, .int .i64 4, .int .i64 0]) ∧ Below w.heap.size w w' := by
  have HN := Lib.hid (new1 w #[.slice none 0 0, .int .i64 0, .int .i64 0] 50)
  go_enter Tryd.func27, Tryd.ntmps27
  go_upto_region 1 with fail
  obtain ⟨w1, hw1⟩ : ∃ w1, w1 = w.alloc (.cells #[.slice none 0 0, .int .i64 0, .int .i64 0] 50) := ⟨_, rfl⟩
  rw [← hw1] at HN ⊢
  clear hw1
  obtain ⟨x0, x1, x2⟩ := cells3 HN.out.1
  obtain ⟨f0, f1, f2⟩ := frees3 HN.out.1
  go_wp2
  refine ret_d1 rfl rfl (sets3 _ _ _ HN.out.1) ?_
  exact ⟨rfl, below_sets3 HN.out.2 (Nat.le_refl _)⟩
theorem rstep_is (w : World) : Calls Tryd.prog 42 #[.agg #[.slice none 0 0, .int .i64 4, .int .i64 0]] w fun e w' => e = .returned (.tuple #[.agg #[.slice none 0 0, .int .i64 4, .int .i64 0], .bool false]) ∧ Below w.heap.size w w' := by
  have HN := Lib.hid (new2 w #[.slice none 0 0, .int .i64 4, .int .i64 0] #[.slice none 0 0, .int .i64 0, .int .i64 0] 50 50)
  go_enter Tryd.func42, Tryd.ntmps42
  go_upto_region 1 with fail
  obtain ⟨w1, hw1⟩ : ∃ w1, w1 = (w.alloc (.cells #[.slice none 0 0, .int .i64 4, .int .i64 0] 50)).alloc (.cells #[.slice none 0 0, .int .i64 0, .int .i64 0] 50) := ⟨_, rfl⟩
  rw [← hw1] at HN ⊢
  clear hw1
  obtain ⟨y0, y1, y2⟩ := cells3 HN.out.1
  obtain ⟨x0, x1, x2⟩ := cells3 HN.out.2.1
  obtain ⟨f0, f1, f2⟩ := frees3 HN.out.2.1
  go_wp2
  refine ret_d rfl rfl rfl (sets3 _ _ _ HN.out.2.1) ?_
  exact ⟨rfl, below_sets3 HN.out.2.2 (by omega)⟩
theorem rget_is (t : ByteArray) (w : World) : Calls Tryd.prog 41 #[.agg #[.slice none 0 0, .int .i64 4, .int .i64 0], .string t] w fun e w' => e = .returned (.tuple #[.int .i64 0, .bool false]) ∧ Below w.heap.size w w' := by
  have HN := Lib.hid (new1 w #[.slice none 0 0, .int .i64 4, .int .i64 0] 50)
  go_enter Tryd.func41, Tryd.ntmps41
  go_upto_region 1 with fail
  obtain ⟨w1, hw1⟩ : ∃ w1, w1 = w.alloc (.cells #[.slice none 0 0, .int .i64 4, .int .i64 0] 50) := ⟨_, rfl⟩
  rw [← hw1] at HN ⊢
  clear hw1
  obtain ⟨x0, x1, x2⟩ := cells3 HN.out.1
  go_wp2_with fail
  refine wp_loop_rounds 1 ?_; rw [rounds_succ]
  go_wp2
  go_ret2
  exact ⟨rfl, HN.out.2⟩
end Go.Proofs.YtfdcacjfngjmdaaDoor.T
