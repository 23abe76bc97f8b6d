import Derived.Deep.DeepCutAuto
import Derived.Laws.OwnMore
import Derived.OwnWalk
import Derived.Lib.AppendStr
import Derived.Lib.SliceRun
import Derived.Lib.SmallJoins
import Derived.IntWalk
import Derived.Lib.ItoaLen
import Derived.WalkMore
import Derived.Lib.AtoiAllCases
import Derived.Lib.OthersKept
import Derived.Laws.Runes
import Derived.Deep.LoopGhost
import Derived.Deep.RegionLaw
import Derived.Deep.AppendLies
import Derived.Test.YteghfinngilfgaaDoorProg
import Derived.Test.YteghfinngilfgaaDoorMem
import Derived.Test.YteghfinngilfgaaDoorZa
import Derived.WalkKit
import Derived.Outline
import Derived.WalkLawsBesides
import Derived.Deep.QuietTactic
import Derived.BigQuiet
import Derived.Lib.Hide
import Derived.Handy
import Derived.Deep.RegionHeld3
import Derived.Deep.DrawnRows
import Derived.KernelRfl
import Derived.Great.Walk
import Derived.Test.YteghfinngilfgaaDoorOwn
namespace Go.Proofs.YteghfinngilfgaaDoor.T
open Go Go.RowKit Go.Sort Mem Own
set_option maxRecDepth 100000
set_option maxHeartbeats 1000000
set_option linter.unusedVariables false
set_option linter.unusedSimpArgs false

/-- What is told of a text that is too short. -/
def RShort (w : World) (e : Ending) (w' : World) : Prop := e = .returned (.tuple #[tV 0 0 ⟨#[]⟩ none 0 0, .int .i64 0, .int .i64 40]) ∧ Below w.heap.size w w'
theorem read_none (d : Int) (w : World) : Calls Tryd.prog 25 #[.string ⟨#[]⟩, .int .i64 d] w (RShort w) := by
  have HN := Lib.hid (new1 w #[.int .i64 0, .int .i64 0, .string ⟨#[]⟩, .slice none 0 0] 24)
  go_enter Tryd.func25, Tryd.ntmps25
  go_upto_region 1 with fail
  obtain ⟨w1, hw1⟩ : ∃ w1, w1 = w.alloc (.cells #[.int .i64 0, .int .i64 0, .string ⟨#[]⟩, .slice none 0 0] 24) := ⟨_, rfl⟩
  rw [← hw1] at HN ⊢
  clear hw1
  obtain ⟨x0, x1, x2, x3⟩ := cells4 HN.out.1
  obtain ⟨f0, f1, f2, f3⟩ := frees4 HN.out.1
  go_wp2
  refine ret_reply rfl rfl rfl rfl (sets4 _ _ _ _ HN.out.1) ?_
  exact ⟨rfl, below_sets4 HN.out.2 (Nat.le_refl _)⟩
/-- A beginning of a line. -/
theorem read_line_cut (c : UInt8) (j : Nat) (s : ByteArray) (d : Int) (l : List UInt8) (w : World) (hs : s.toList = c :: l) (hc : Lib.indexByte [43, 45, 58, 36, 42] c = (j : Int)) (hp : ∀ b ∈ s.toList, ¬ b = 10) (hl : s.size ≤ 511) :
    Calls Tryd.prog 25 #[.string s, .int .i64 d] w (RShort w) := by
  have HL := Lib.hid (fun wx => line_short s wx hp hl)
  have h0 : 0 < s.size := by rw [← toList_len, hs]; simp
  have hg : s[0]'h0 = c := by
    have := ba_get h0
    rw [hs] at this; simpa using this.symm
  have HI := Lib.hid (fun (wx : World) => (Tryd.strings_IndexByte ⟨#[43, 45, 58, 36, 42]⟩ (c.toNat : Int) wx).mono (R' := fun e w' => e = .returned (.int .i64 (j : Int)) ∧ wx = w') (fun e w' h => ⟨by rw [h.1]; show Ending.returned (.int .i64 (Lib.indexByte [43, 45, 58, 36, 42] ((c.toNat : Int).toNat.toUInt8))) = _; rw [Int.toNat_natCast, show c.toNat.toUInt8 = c by simp, hc], h.2.symm⟩))
  have HN := Lib.hid (new1 w #[.int .i64 0, .int .i64 0, .string ⟨#[]⟩, .slice none 0 0] 24)
  have hne : s.toList.isEmpty = false := by rw [hs]; rfl
  have hj : decide ((j : Int) < 0) = false := by simp
  obtain ⟨x0, x1, x2, x3⟩ := cells4 HN.out.1
  clear hs hp
  go_enter Tryd.func25, Tryd.ntmps25
  go_wp2_with (first
    | (go_at_call 33; refine Calls.mono (HI.out _) ?_; rintro e w1 ⟨rfl, rfl⟩)
    | (go_at_call 34; refine Calls.mono (HL.out _) ?_; (rintro e w2 ⟨rfl, hb2⟩; have HB2 := Lib.hid (HN.out.2.trans (hb2.mono HN.out.2.size)); have HX2 := Lib.hid (keep_blk hb2 HN.out.1); clear hb2 x0 x1 x2 x3; obtain ⟨x0, x1, x2, x3⟩ := cells4 HX2.out; obtain ⟨f0, f1, f2, f3⟩ := frees4 HX2.out)))
  refine ret_reply rfl rfl rfl rfl (sets4 _ _ _ _ HX2.out) ?_
  exact ⟨rfl, below_sets4 HB2.out (Nat.le_refl _)⟩
/-- reply.Decode of a text that is too short. -/
theorem decode_short (s : ByteArray) (w : World) (hr : ∀ wx : World, Below w.heap.size w wx → Calls Tryd.prog 25 #[.string s, .int .i64 0] wx (RShort wx)) :
    Calls Tryd.prog 14 #[.string s] w (RShort w) := by
  have HR := Lib.hid hr
  have HN := Lib.hid (new1 w #[.int .i64 0, .int .i64 0, .string ⟨#[]⟩, .slice none 0 0] 24)
  clear hr
  go_enter Tryd.func14, Tryd.ntmps14
  go_upto_region 1 with fail
  obtain ⟨w1, hw1⟩ : ∃ w1, w1 = w.alloc (.cells #[.int .i64 0, .int .i64 0, .string ⟨#[]⟩, .slice none 0 0] 24) := ⟨_, rfl⟩
  rw [← hw1] at HN ⊢
  clear hw1
  go_wp2_with (go_at_call 25; refine Calls.mono (HR.out _ HN.out.2) ?_; (rintro e w2 ⟨rfl, hb2⟩; have HB2 := Lib.hid (HN.out.2.trans (hb2.mono HN.out.2.size)); have HX2 := Lib.hid (keep_blk hb2 HN.out.1); clear hb2; obtain ⟨x0, x1, x2, x3⟩ := cells4 HX2.out; obtain ⟨f0, f1, f2, f3⟩ := frees4 HX2.out))
  refine ret_reply rfl rfl rfl rfl (sets4 _ _ _ _ HX2.out) ?_
  exact ⟨rfl, below_sets4 HB2.out (Nat.le_refl _)⟩
end Go.Proofs.YteghfinngilfgaaDoor.T
