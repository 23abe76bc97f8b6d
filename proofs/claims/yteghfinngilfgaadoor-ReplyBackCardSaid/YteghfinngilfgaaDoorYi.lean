import Derived.Deep.DeepCutAuto
import Derived.Laws.OwnMore
import Derived.OwnWalk
import Derived.Lib.AppendStr
import Derived.Lib.SliceRun
import Derived.Lib.SmallJoins
import Derived.IntWalk
import Derived.Lib.ItoaLen
import Derived.WalkMore
import Derived.Lib.AtoiAllCases
import Derived.Lib.OthersKept
import Derived.Laws.Runes
import Derived.Deep.LoopGhost
import Derived.Deep.RegionLaw
import Derived.Deep.AppendLies
import Derived.Test.YteghfinngilfgaaDoorProg
import Derived.Test.YteghfinngilfgaaDoorMem
import Derived.Test.YteghfinngilfgaaDoorYh
import Derived.WalkKit
import Derived.Outline
import Derived.WalkLawsBesides
import Derived.Deep.QuietTactic
import Derived.BigQuiet
import Derived.Lib.Hide
import Derived.Handy
import Derived.Deep.RegionHeld3
import Derived.Deep.DrawnRows
import Derived.KernelRfl
import Derived.Great.Walk
import Derived.Test.YteghfinngilfgaaDoorOwn
namespace Go.Proofs.YteghfinngilfgaaDoor.T
open Go Go.RowKit Go.Sort Mem Own
set_option maxRecDepth 100000
set_option maxHeartbeats 1000000
set_option linter.unusedVariables false
set_option linter.unusedSimpArgs false

/-- reply.bare -/
theorem pbare_is (x : T) (A : Option Addr) (c : Nat) (w : World) : Calls Tryd.prog 27 #[tV x.k x.z x.t A x.l.length c] w fun e w' => e = .returned (.bool (bareB x)) ∧ Below w.heap.size w w' := by
  have HN := Lib.hid (new1 w #[.int .i64 x.k, .int .i64 x.z, .string x.t, .slice A x.l.length c] 24)
  unfold bareB
  generalize x.k = k at HN ⊢
  generalize x.z = z at HN ⊢
  generalize x.t = t at HN ⊢
  generalize x.l.length = n at HN ⊢
  have kinds : k = 1 ∨ k = 2 ∨ k = 4 ∨ k = 3 ∨ k = 6 ∨ (¬ k = 1 ∧ ¬ k = 2 ∧ ¬ k = 4 ∧ ¬ k = 3 ∧ ¬ k = 6) := by omega
  by_cases hz : z = 0
  all_goals by_cases hn : n = 0
  all_goals cases ht : t.toList.isEmpty
  all_goals rcases kinds with rfl | rfl | rfl | rfl | rfl | ⟨h1, h2, h4, h3, h6⟩
  all_goals
    (try (have hzb : (z == 0) = false := by simpa using hz))
    (try (have hnb : ((n : Int) == 0) = false := by simp; omega))
    (try (have hnp : 0 < n := by omega))
    (try (have k1 : (k == 1) = false := by simpa using h1))
    (try (have k2 : (k == 2) = false := by simpa using h2))
    (try (have k4 : (k == 4) = false := by simpa using h4))
    (try (have k3 : (k == 3) = false := by simpa using h3))
    (try (have k6 : (k == 6) = false := by simpa using h6))
    (try (have j1 : (k != 1) = true := by simpa using h1))
    (try (have j2 : (k != 2) = true := by simpa using h2))
    (try (have j4 : (k != 4) = true := by simpa using h4))
    (try (have j3 : (k != 3) = true := by simpa using h3))
    (try subst hz)
    (try subst hn)
    go_enter Tryd.func27, Tryd.ntmps27
    go_wp2
    go_ret
    exact ⟨by simp_all, HN.out.2⟩
end Go.Proofs.YteghfinngilfgaaDoor.T
