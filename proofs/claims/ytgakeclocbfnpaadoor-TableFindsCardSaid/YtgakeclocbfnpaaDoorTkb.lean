import Derived.Test.YtgakeclocbfnpaaDoorProg
import Derived.Test.YtgakeclocbfnpaaDoorShelf
import Derived.Test.YtgakeclocbfnpaaDoorMem
import Derived.Test.YtgakeclocbfnpaaDoorTa
import Derived.Test.YtgakeclocbfnpaaDoorTa2
import Derived.Test.YtgakeclocbfnpaaDoorTb
import Derived.Test.YtgakeclocbfnpaaDoorTc
import Derived.Test.YtgakeclocbfnpaaDoorTd
import Derived.Test.YtgakeclocbfnpaaDoorTe
import Derived.Test.YtgakeclocbfnpaaDoorTf
import Derived.Test.YtgakeclocbfnpaaDoorTg
import Derived.Test.YtgakeclocbfnpaaDoorTh
import Derived.Test.YtgakeclocbfnpaaDoorTi
import Derived.Test.YtgakeclocbfnpaaDoorTja
import Derived.Test.YtgakeclocbfnpaaDoorTj
import Derived.Test.YtgakeclocbfnpaaDoorTka
import Derived.WalkKit
import Derived.Outline
import Derived.WalkLawsBesides
import Derived.Deep.QuietTactic
import Derived.BigQuiet
import Derived.Lib.Hide
import Derived.Handy
import Derived.Deep.RegionHeld3
import Derived.Deep.DrawnRows
import Derived.KernelRfl
import Derived.Great.Walk
import Derived.Test.YtgakeclocbfnpaaDoorOwn
namespace Go.Proofs.YtgakeclocbfnpaaDoor.T
open Go Go.RowKit Mem Own
set_option maxRecDepth 100000
set_option maxHeartbeats 1000000
set_option linter.unusedVariables false
set_option linter.unusedSimpArgs false

theorem check_first {w w1 : World} {s : Sp} {f : Bool} (hb : Below (w.alloc (.cells #[.string ⟨#[]⟩, .int .i64 0, .int .i64 0, .int .i64 0, .int .i64 0, .int .i64 0, .bool false] 25)).heap.size (w.alloc (.cells #[.string ⟨#[]⟩, .int .i64 0, .int .i64 0, .int .i64 0, .int .i64 0, .int .i64 0, .bool false] 25)) w1) :
    ∃ b4 : Nat, Value.pointer (some ⟨w1.heap.size, 0, none⟩) = .pointer (some ⟨b4, 0, none⟩) ∧ Value.bool f = .bool f ∧ w.heap.size < b4 ∧
      RowKit.Hid ((w1.alloc (.cells #[.string s.name, .int .i64 s.least, .int .i64 s.most, .int .i64 s.first, .int .i64 s.last, .int .i64 s.step, .bool s.writes] 25)).heap[w.heap.size]? = some (.cells #[.string ⟨#[]⟩, .int .i64 0, .int .i64 0, .int .i64 0, .int .i64 0, .int .i64 0, .bool false] 25 (0, 0))) ∧
      RowKit.Hid ((w1.alloc (.cells #[.string s.name, .int .i64 s.least, .int .i64 s.most, .int .i64 s.first, .int .i64 s.last, .int .i64 s.step, .bool s.writes] 25)).heap[b4]? = some (.cells #[.string s.name, .int .i64 s.least, .int .i64 s.most, .int .i64 s.first, .int .i64 s.last, .int .i64 s.step, .bool s.writes] 25 (0, 0))) ∧
      RowKit.Hid (Below w.heap.size w (w1.alloc (.cells #[.string s.name, .int .i64 s.least, .int .i64 s.most, .int .i64 s.first, .int .i64 s.last, .int .i64 s.step, .bool s.writes] 25))) := by
  have hz : w.heap.size < w1.heap.size := by have := hb.size; simp at this; omega
  refine ⟨_, rfl, rfl, hz, Lib.hid ?_, Lib.hid (heap_alloc_new _ _), Lib.hid ?_⟩
  · rw [Below.heap_alloc _ _ _ hz]; exact box1 hb
  · exact (((Below.refl _ _).alloc (Nat.le_refl _) _).trans (hb.mono (by simp))).alloc (Nat.le_of_lt hz) _
theorem chk_no {x : ByteArray} {r : List ByteArray} (h : fis x = false) : chk (x :: r) = (sp0, 120) := by simp [chk, h]
theorem chk_bad {x : ByteArray} {r : List ByteArray} (h : fis x = true) (hf : ¬ fit (fsp x) r.length) : chk (x :: r) = (sp0, 121) := by simp [chk, h, hf]
theorem chk_ok {x : ByteArray} {r : List ByteArray} (h : fis x = true) (hf : fit (fsp x) r.length) : chk (x :: r) = (fsp x, 0) := by simp [chk, h, hf]
theorem ret_chk {l : List ByteArray} {n : Int} (h : chk l = (sp0, n)) : Ending.returned (.tuple #[spV sp0, .int .i64 n]) = .returned (.tuple #[spV (chk l).1, .int .i64 (chk l).2]) := by rw [h]
theorem ret_chk_ok {l : List ByteArray} {n : Int} {s s' : Sp} (h : chk l = (s, n)) (e : s' = s) : Ending.returned (.tuple #[spV s', .int .i64 n]) = .returned (.tuple #[spV (chk l).1, .int .i64 (chk l).2]) := by rw [h, e]
end Go.Proofs.YtgakeclocbfnpaaDoor.T
