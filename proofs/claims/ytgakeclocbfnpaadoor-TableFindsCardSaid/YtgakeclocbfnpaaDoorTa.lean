import Derived.Test.YtgakeclocbfnpaaDoorProg
import Derived.Test.YtgakeclocbfnpaaDoorMem
import Derived.WalkKit
import Derived.Outline
import Derived.WalkLawsBesides
import Derived.Deep.QuietTactic
import Derived.BigQuiet
import Derived.Lib.Hide
import Derived.Handy
import Derived.Deep.RegionHeld3
import Derived.Deep.DrawnRows
import Derived.KernelRfl
import Derived.Great.Walk
namespace Go.Proofs.YtgakeclocbfnpaaDoor.T
open Go Go.RowKit Mem
set_option maxRecDepth 100000
set_option maxHeartbeats 8000000
set_option linter.unusedVariables false
set_option linter.unusedSimpArgs false

/-- A command's row. -/
structure Sp where
  name : ByteArray
  least : Int
  most : Int
  first : Int
  last : Int
  step : Int
  writes : Bool
def specs : List Sp := [
  ⟨⟨#[80, 73, 78, 71]⟩, 0, 0, 0, 0, 0, false⟩,
  ⟨⟨#[69, 67, 72, 79]⟩, 1, 1, 0, 0, 0, false⟩,
  ⟨⟨#[71, 69, 84]⟩, 1, 1, 1, 1, 1, false⟩,
  ⟨⟨#[83, 69, 84]⟩, 2, 2, 1, 1, 1, true⟩,
  ⟨⟨#[68, 69, 76]⟩, 1, 31, 1, -1, 1, true⟩,
  ⟨⟨#[69, 88, 73, 83, 84, 83]⟩, 1, 31, 1, -1, 1, false⟩,
  ⟨⟨#[84, 89, 80, 69]⟩, 1, 1, 1, 1, 1, false⟩,
  ⟨⟨#[65, 80, 80, 69, 78, 68]⟩, 2, 2, 1, 1, 1, true⟩,
  ⟨⟨#[83, 84, 82, 76, 69, 78]⟩, 1, 1, 1, 1, 1, false⟩,
  ⟨⟨#[73, 78, 67, 82, 66, 89]⟩, 2, 2, 1, 1, 1, true⟩,
  ⟨⟨#[77, 71, 69, 84]⟩, 1, 31, 1, -1, 1, false⟩,
  ⟨⟨#[77, 83, 69, 84]⟩, 2, 31, 1, -1, 2, true⟩,
  ⟨⟨#[72, 83, 69, 84]⟩, 3, 31, 1, 1, 1, true⟩,
  ⟨⟨#[72, 71, 69, 84]⟩, 2, 2, 1, 1, 1, false⟩,
  ⟨⟨#[72, 68, 69, 76]⟩, 2, 31, 1, 1, 1, true⟩,
  ⟨⟨#[72, 76, 69, 78]⟩, 1, 1, 1, 1, 1, false⟩,
  ⟨⟨#[72, 65, 76, 76]⟩, 1, 1, 1, 1, 1, false⟩,
  ⟨⟨#[76, 80, 85, 83, 72]⟩, 2, 31, 1, 1, 1, true⟩,
  ⟨⟨#[82, 80, 85, 83, 72]⟩, 2, 31, 1, 1, 1, true⟩,
  ⟨⟨#[76, 80, 79, 80]⟩, 1, 1, 1, 1, 1, true⟩,
  ⟨⟨#[82, 80, 79, 80]⟩, 1, 1, 1, 1, 1, true⟩,
  ⟨⟨#[76, 76, 69, 78]⟩, 1, 1, 1, 1, 1, false⟩,
  ⟨⟨#[76, 73, 78, 68, 69, 88]⟩, 2, 2, 1, 1, 1, false⟩,
  ⟨⟨#[76, 82, 65, 78, 71, 69]⟩, 3, 3, 1, 1, 1, false⟩,
  ⟨⟨#[76, 84, 82, 73, 77]⟩, 3, 3, 1, 1, 1, true⟩,
  ⟨⟨#[83, 65, 68, 68]⟩, 2, 31, 1, 1, 1, true⟩,
  ⟨⟨#[83, 82, 69, 77]⟩, 2, 31, 1, 1, 1, true⟩,
  ⟨⟨#[83, 72, 65, 83]⟩, 2, 2, 1, 1, 1, false⟩,
  ⟨⟨#[83, 65, 76, 76]⟩, 1, 1, 1, 1, 1, false⟩,
  ⟨⟨#[83, 67, 65, 82, 68]⟩, 1, 1, 1, 1, 1, false⟩,
  ⟨⟨#[83, 85, 78, 73, 79, 78]⟩, 1, 31, 1, -1, 1, false⟩,
  ⟨⟨#[83, 73, 78, 84, 69, 82]⟩, 1, 31, 1, -1, 1, false⟩,
  ⟨⟨#[83, 68, 73, 70, 70]⟩, 1, 31, 1, -1, 1, false⟩,
  ⟨⟨#[80, 83, 69, 84]⟩, 2, 2, 1, 1, 1, true⟩,
  ⟨⟨#[80, 71, 69, 84]⟩, 1, 1, 1, 1, 1, false⟩,
  ⟨⟨#[80, 65, 68, 68]⟩, 2, 2, 1, 1, 1, true⟩,
  ⟨⟨#[80, 77, 85, 76]⟩, 2, 2, 1, 1, 1, true⟩,
  ⟨⟨#[80, 84, 85, 82, 78]⟩, 2, 2, 1, 1, 1, true⟩,
  ⟨⟨#[80, 78, 79, 82, 77]⟩, 1, 1, 1, 1, 1, false⟩,
  ⟨⟨#[69, 88, 80, 73, 82, 69]⟩, 2, 2, 1, 1, 1, true⟩,
  ⟨⟨#[84, 84, 76]⟩, 1, 1, 1, 1, 1, false⟩,
  ⟨⟨#[80, 69, 82, 83, 73, 83, 84]⟩, 1, 1, 1, 1, 1, true⟩,
  ⟨⟨#[68, 85, 77, 80]⟩, 1, 1, 1, 1, 1, false⟩,
  ⟨⟨#[82, 69, 83, 84, 79, 82, 69]⟩, 3, 3, 1, 1, 1, true⟩,
  ⟨⟨#[75, 69, 89, 83, 76, 79, 84]⟩, 1, 1, 0, 0, 0, false⟩,
  ⟨⟨#[67, 79, 85, 78, 84]⟩, 1, 1, 0, 0, 0, false⟩,
  ⟨⟨#[75, 69, 89, 83]⟩, 2, 2, 0, 0, 0, false⟩]
def sp0 : Sp := ⟨⟨#[]⟩, 0, 0, 0, 0, 0, false⟩
abbrev spV (s : Sp) : Value := .agg #[.string s.name, .int .i64 s.least, .int .i64 s.most, .int .i64 s.first, .int .i64 s.last, .int .i64 s.step, .bool s.writes]
def spC (s : Sp) : List Value := [.string s.name, .int .i64 s.least, .int .i64 s.most, .int .i64 s.first, .int .i64 s.last, .int .i64 s.step, .bool s.writes]
def cells : Array Value := (specs.flatMap spC).toArray


theorem all_is (w : World) : Calls Tryd.prog 19 #[] w fun e w' => e = .returned (.slice (some ⟨w.heap.size, 0, none⟩) 47 47) ∧ w.alloc (.cells cells 25) = w' := by
  go_enter Tryd.func19, Tryd.ntmps19
  go_wp2_with (refine Go.Great.wpList_runTo (o := ⟨some 48, _, _, _, _, _⟩) rfl (some 48) rfl (.slice (some ⟨w.heap.size, 0, none⟩) 47 47) (w.alloc (.cells cells 25)) (by kernel_rfl) ?_)
  go_ret
  exact ⟨rfl, rfl⟩
end Go.Proofs.YtgakeclocbfnpaaDoor.T
