import Derived.Deep.DeepCutAuto
import Derived.Laws.OwnMore
import Derived.OwnWalk
import Derived.Lib.AppendStr
import Derived.Lib.SliceRun
import Derived.Lib.SmallJoins
import Derived.IntWalk
import Derived.Lib.ItoaLen
import Derived.WalkMore
import Derived.Lib.AtoiAllCases
import Derived.Lib.OthersKept
import Derived.Laws.Runes
import Derived.Deep.LoopGhost
import Derived.Deep.RegionLaw
import Derived.Deep.AppendLies
import Derived.Test.YteghfinngilfgaaDoorProg
import Derived.Test.YteghfinngilfgaaDoorMem
import Derived.Test.YteghfinngilfgaaDoorYw
import Derived.WalkKit
import Derived.Outline
import Derived.WalkLawsBesides
import Derived.Deep.QuietTactic
import Derived.BigQuiet
import Derived.Lib.Hide
import Derived.Handy
import Derived.Deep.RegionHeld3
import Derived.Deep.DrawnRows
import Derived.KernelRfl
import Derived.Great.Walk
import Derived.Test.YteghfinngilfgaaDoorOwn
namespace Go.Proofs.YteghfinngilfgaaDoor.T
open Go Go.RowKit Go.Sort Mem Own
set_option maxRecDepth 100000
set_option maxHeartbeats 1000000
set_option linter.unusedVariables false
set_option linter.unusedSimpArgs false

/-- reply.Decode, from reply.read's answer. -/
theorem decode_of (x : T) (n : Nat) (s : ByteArray) (w : World) (hr : ∀ wx : World, Below w.heap.size w wx → Calls Tryd.prog 25 #[.string s, .int .i64 0] wx (ROut x n wx.heap.size wx)) :
    Calls Tryd.prog 14 #[.string s] w (ROut x n w.heap.size w) := by
  have HR := Lib.hid hr
  have HN := Lib.hid (new1 w #[.int .i64 0, .int .i64 0, .string ⟨#[]⟩, .slice none 0 0] 24)
  clear hr
  go_enter Tryd.func14, Tryd.ntmps14
  go_upto_region 1 with fail
  obtain ⟨w1, hw1⟩ : ∃ w1, w1 = w.alloc (.cells #[.int .i64 0, .int .i64 0, .string ⟨#[]⟩, .slice none 0 0] 24) := ⟨_, rfl⟩
  rw [← hw1] at HN ⊢
  clear hw1
  go_wp2_with (go_at_call 25; refine Calls.mono (HR.out _ HN.out.2) ?_; (rintro e w2 ⟨A, c, rfl, hrd, hb2⟩; have HB2 := Lib.hid (HN.out.2.trans (hb2.mono HN.out.2.size)); have HX2 := Lib.hid (keep_blk hb2 HN.out.1); have HRD := Lib.hid (RdN.mn hrd (lt_of_blk HN.out.1)); clear hb2 hrd; obtain ⟨x0, x1, x2, x3⟩ := cells4 HX2.out; obtain ⟨f0, f1, f2, f3⟩ := frees4 HX2.out))
  refine ret_reply rfl rfl rfl rfl (sets4 _ _ _ _ HX2.out) ?_
  exact ⟨A, c, rfl, RdN.mn ((((HRD.out.set (Nat.lt_succ_self _)).set (Nat.lt_succ_self _)).set (Nat.lt_succ_self _)).set (Nat.lt_succ_self _)) (Nat.le_succ _), below_sets4 HB2.out (Nat.le_refl _)⟩
end Go.Proofs.YteghfinngilfgaaDoor.T
