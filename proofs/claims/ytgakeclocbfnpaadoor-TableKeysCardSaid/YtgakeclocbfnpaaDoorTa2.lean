import Derived.Test.YtgakeclocbfnpaaDoorProg
import Derived.Test.YtgakeclocbfnpaaDoorMem
import Derived.Test.YtgakeclocbfnpaaDoorTa
import Derived.WalkKit
import Derived.Outline
import Derived.WalkLawsBesides
import Derived.Deep.QuietTactic
import Derived.BigQuiet
import Derived.Lib.Hide
import Derived.Handy
import Derived.Deep.RegionHeld3
import Derived.Deep.DrawnRows
import Derived.KernelRfl
import Derived.Great.Walk
namespace Go.Proofs.YtgakeclocbfnpaaDoor.T
open Go Go.RowKit Mem
set_option maxRecDepth 100000
set_option maxHeartbeats 8000000
set_option linter.unusedVariables false
set_option linter.unusedSimpArgs false

theorem rall_is (w : World) : Calls Tryd.prog 10 #[] w fun e w' => e = .returned (.slice (some ⟨w.heap.size, 0, none⟩) 47 47) ∧ w.alloc (.cells cells 25) = w' := by
  go_enter Tryd.func10, Tryd.ntmps10
  go_wp2_with (refine Go.Great.wpList_runTo (o := ⟨some 48, _, _, _, _, _⟩) rfl (some 48) rfl (.slice (some ⟨w.heap.size, 0, none⟩) 47 47) (w.alloc (.cells cells 25)) (by kernel_rfl) ?_)
  go_ret
  exact ⟨rfl, rfl⟩
end Go.Proofs.YtgakeclocbfnpaaDoor.T
