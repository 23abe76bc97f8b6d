import Derived.Test.YtgakeclocbfnpaaDoorProg
import Derived.Test.YtgakeclocbfnpaaDoorShelf
import Derived.Test.YtgakeclocbfnpaaDoorMem
import Derived.Test.YtgakeclocbfnpaaDoorTa
import Derived.Test.YtgakeclocbfnpaaDoorTa2
import Derived.Test.YtgakeclocbfnpaaDoorTb
import Derived.Test.YtgakeclocbfnpaaDoorTc
import Derived.Test.YtgakeclocbfnpaaDoorTd
import Derived.Test.YtgakeclocbfnpaaDoorTe
import Derived.Test.YtgakeclocbfnpaaDoorTf
import Derived.Shelf.Unicode.DecodeSlow
import Derived.WalkKit
import Derived.Outline
import Derived.WalkLawsBesides
import Derived.Deep.QuietTactic
import Derived.BigQuiet
import Derived.Lib.Hide
import Derived.Handy
import Derived.Deep.RegionHeld3
import Derived.Deep.DrawnRows
import Derived.KernelRfl
import Derived.Great.Walk
namespace Go.Proofs.YtgakeclocbfnpaaDoor.T
open Go Go.RowKit Mem
set_option maxRecDepth 100000
set_option maxHeartbeats 8000000
set_option linter.unusedVariables false
set_option linter.unusedSimpArgs false

/-- The two tables of unicode/utf8 lie in the world. -/
def U8 (w : World) : Prop := Lib.Utf8Tabs 0 1 w
theorem U8.below {w w' : World} (h : U8 w) (hb : Below w.heap.size w w') : U8 w' := Utf8Tabs_below h hb
theorem upr_pays (w : World) : MapAtRunes Tryd.prog 25 #[] upr w := fun W x hx hb =>
  (upr_is x hx W).mono fun e w' ⟨he, hw⟩ => ⟨he, 0, hw.symm⟩
theorem upper_is (s : ByteArray) (w : World) (hs : s.size ≤ 10) (hT : U8 w) : Calls Tryd.prog 22 #[.string s] w fun e w' => e = .returned (.string (upB s)) ∧ Below w.heap.size w w' := by
  have HM := Lib.hid (Tryd.strings_Map_runes 25 #[] (fun args w => by kernel_rfl) upr s w (by omega) (upr_pays w) (fun x hx => by unfold upr; split <;> omega) hT)
  clear hT
  go_enter Tryd.func22, Tryd.ntmps22
  go_wp2_with (go_at_call 24; refine HM.out.mono ?_; rintro e w1 ⟨rfl, hb1⟩)
  go_ret
  exact ⟨rfl, hb1⟩
end Go.Proofs.YtgakeclocbfnpaaDoor.T
