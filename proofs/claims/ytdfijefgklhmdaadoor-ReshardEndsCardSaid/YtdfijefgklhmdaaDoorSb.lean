import Derived.Deep.DeepCutAuto
import Derived.Laws.OwnMore
import Derived.OwnWalk
import Derived.Lib.AppendStr
import Derived.Lib.SliceRun
import Derived.Lib.SmallJoins
import Derived.IntWalk
import Derived.Lib.ItoaLen
import Derived.Test.YtdfijefgklhmdaaDoorProg
import Derived.Test.YtdfijefgklhmdaaDoorShelf
import Derived.Test.YtdfijefgklhmdaaDoorMem
import Derived.Test.YtdfijefgklhmdaaDoorSa
import Derived.WalkKit
import Derived.Outline
import Derived.WalkLawsBesides
import Derived.Deep.QuietTactic
import Derived.BigQuiet
import Derived.Lib.Hide
import Derived.Handy
import Derived.Deep.RegionHeld3
import Derived.Deep.DrawnRows
import Derived.KernelRfl
import Derived.Great.Walk
import Derived.Test.YtdfijefgklhmdaaDoorOwn
namespace Go.Proofs.YtdfijefgklhmdaaDoor.T
open Go Go.RowKit Go.Sort Mem Own
set_option maxRecDepth 100000
set_option maxHeartbeats 1000000
set_option linter.unusedVariables false
set_option linter.unusedSimpArgs false

theorem end7c {fn : Func} {R : Ending → World → Prop} {tmps : Array Value} {w : World} {b k : Nat} {v0 v1 v2 v3 v4 v5 v6 : Value} (hres : fn.results = #[ResultVar.cell k 32])
    (h2 : tmps[k]?.getD undef = .pointer (some ⟨b, 0, none⟩)) (hb : w.heap[b]? = some (.cells #[v0, v1, v2, v3, v4, v5, v6] 32 (0, 0)))
    (hR : R (.returned (.agg #[v0, v1, v2, v3, v4, v5, v6])) w) : bodyPost Tryd.prog fn R .ret { tmps := tmps, defers := [] } w := by
  obtain ⟨g0, g1, g2, g3, g4, g5, g6⟩ := facts7 hb
  refine bodyPost_ret (v := .agg #[v0, v1, v2, v3, v4, v5, v6]) ?_ rfl hR
  simp [results, hres, go_sem, h2, g0, g1, g2, g3, g4, g5, g6]
/-- ref20.is -/
theorem is_is (k z : Int) (t : ByteArray) (A : Option Addr) (n c : Nat) (kind : Int) (text : ByteArray) (w : World) : Calls Tryd.prog 26 #[.agg #[.int .i64 k, .int .i64 z, .string t, .slice A n c], .int .i64 kind, .string text] w fun e w' => e = .returned (.bool (k == kind && t.toList == text.toList)) ∧ w' = w.alloc (.cells #[.int .i64 k, .int .i64 z, .string t, .slice A n c] 41) := by
  by_cases h : k = kind
  · subst h
    go_enter Tryd.func26, Tryd.ntmps26
    go_wp2
    go_ret
    exact ⟨by simp, rfl⟩
  · have hb : (k == kind) = false := by simpa using h
    go_enter Tryd.func26, Tryd.ntmps26
    go_wp2
    go_ret
    exact ⟨by simp [hb], rfl⟩
/-- ref20.fails -/
theorem fails_is (A : Option Addr) (n c : Nat) (B T call : Int) (Q : Option Addr) (qn qc : Nat) (ep : Int) (fl : Bool) (w : World) : Calls Tryd.prog 27 #[.agg #[.slice A n c, .int .i64 B, .int .i64 T, .int .i64 call, .slice Q qn qc, .int .i64 ep, .bool fl]] w fun e w' => e = .returned (.agg #[.slice A n c, .int .i64 B, .int .i64 T, .int .i64 call, .slice Q qn qc, .int .i64 ep, .bool true]) ∧ Below w.heap.size w w' := by
  have HX0 := Lib.hid (heap_alloc_new w (.cells #[.slice A n c, .int .i64 B, .int .i64 T, .int .i64 call, .slice Q qn qc, .int .i64 ep, .bool fl] 32))
  have HB0 := Lib.hid ((Below.refl w.heap.size w).alloc (Nat.le_refl _) (.cells #[.slice A n c, .int .i64 B, .int .i64 T, .int .i64 call, .slice Q qn qc, .int .i64 ep, .bool fl] 32))
  go_enter Tryd.func27, Tryd.ntmps27
  go_upto_region 1 with fail
  go_cut [1, 2] (fun s1 s2 wx => s1 = .pointer (some ⟨w.heap.size, 0, none⟩) ∧ s2 = .pointer (some ⟨w.heap.size + 1, 0, none⟩) ∧ RowKit.Hid (wx.heap[w.heap.size]? = some (.cells #[.slice A n c, .int .i64 B, .int .i64 T, .int .i64 call, .slice Q qn qc, .int .i64 ep, .bool true] 32 (0, 0))) ∧ RowKit.Hid (∃ v0 v1 v2 v3 v4 v5 v6, wx.heap[w.heap.size + 1]? = some (.cells #[v0, v1, v2, v3, v4, v5, v6] 32 (0, 0))) ∧ RowKit.Hid (Below w.heap.size w wx))
  case first =>
    go_wp2
    go_meet
    refine ⟨rfl, rfl, Lib.hid (keep_block ((Below.refl _ _).alloc (Nat.le_refl _) _) (heap_alloc_new w (.cells #[.slice A n c, .int .i64 B, .int .i64 T, .int .i64 call, .slice Q qn qc, .int .i64 ep, .bool true] 32))), Lib.hid ⟨_, _, _, _, _, _, _, by have := heap_alloc_new (w.alloc (.cells #[.slice A n c, .int .i64 B, .int .i64 T, .int .i64 call, .slice Q qn qc, .int .i64 ep, .bool true] 32)) (.cells #[.slice none 0 0, .int .i64 0, .int .i64 0, .int .i64 0, .slice none 0 0, .int .i64 0, .bool false] 32); rw [alloc_size] at this; exact this⟩, Lib.hid (((Below.refl w.heap.size w).alloc (Nat.le_refl _) _).alloc (by rw [alloc_size]; omega) _)⟩
  case rest =>
    obtain ⟨rfl, rfl, HX, ⟨v0, v1, v2, v3, v4, v5, v6, HY⟩, HB⟩ := hcut
    obtain ⟨x0, x1, x2, x3, x4, x5, x6⟩ := facts7 HX.out
    have HZ := Lib.hid HY
    obtain ⟨f0, f1, f2, f3, f4, f5, f6⟩ := free7 HY
    obtain ⟨y0, y1, y2, y3, y4, y5, y6⟩ := facts7 HY
    have hy := lt_of_block HY
    clear HY
    go_wp2
    refine end7c Tryd.results27 ?_ (set7 _ _ _ _ _ _ _ HZ.out) ?_
    · rfl
    exact ⟨rfl, below_s7 HB.out (Nat.le_succ _)⟩
end Go.Proofs.YtdfijefgklhmdaaDoor.T
