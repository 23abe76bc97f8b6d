import Derived.Test.YtgakeclocbfnpaaDoorProg
import Derived.Test.YtgakeclocbfnpaaDoorMem
import Derived.Test.YtgakeclocbfnpaaDoorTa
import Derived.Test.YtgakeclocbfnpaaDoorTa2
import Derived.Test.YtgakeclocbfnpaaDoorTb
import Derived.Test.YtgakeclocbfnpaaDoorTc
import Derived.Test.YtgakeclocbfnpaaDoorTd
import Derived.Test.YtgakeclocbfnpaaDoorTe
import Derived.WalkKit
import Derived.Outline
import Derived.WalkLawsBesides
import Derived.Deep.QuietTactic
import Derived.BigQuiet
import Derived.Lib.Hide
import Derived.Handy
import Derived.Deep.RegionHeld3
import Derived.Deep.DrawnRows
import Derived.KernelRfl
import Derived.Great.Walk
namespace Go.Proofs.YtgakeclocbfnpaaDoor.T
open Go Go.RowKit Mem
set_option maxRecDepth 100000
set_option maxHeartbeats 8000000
set_option linter.unusedVariables false
set_option linter.unusedSimpArgs false

theorem upr_is (x : Nat) (hx : x ≤ 1114111) (w : World) : Calls Tryd.prog 25 #[.int .i32 x] w fun e w' => e = .returned (.int .i32 (upr x)) ∧ w = w' := by
  by_cases h1 : 97 ≤ (x : Int)
  · by_cases h2 : (x : Int) ≤ 122
    · have hu := Lib.hid (show upr x = (x : Int) - 32 by unfold upr; rw [if_pos ⟨h1, h2⟩])
      go_enter Tryd.func25, Tryd.ntmps25
      go_wp2
      go_ret
      exact ⟨ret_int hu.out.symm, rfl⟩
    · have hu := Lib.hid (show upr x = (x : Int) by unfold upr; rw [if_neg (by omega)])
      go_enter Tryd.func25, Tryd.ntmps25
      go_wp2
      go_ret
      exact ⟨ret_int hu.out.symm, rfl⟩
  · have hu := Lib.hid (show upr x = (x : Int) by unfold upr; rw [if_neg (by omega)])
    go_enter Tryd.func25, Tryd.ntmps25
    go_wp2
    go_ret
    exact ⟨ret_int hu.out.symm, rfl⟩
end Go.Proofs.YtgakeclocbfnpaaDoor.T
