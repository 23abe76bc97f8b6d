import Derived.Deep.DeepCutAuto
import Derived.Test.YtgakeclocbfnpaaDoorProg
import Derived.Test.YtgakeclocbfnpaaDoorShelf
import Derived.Test.YtgakeclocbfnpaaDoorMem
import Derived.Test.YtgakeclocbfnpaaDoorTa
import Derived.Test.YtgakeclocbfnpaaDoorTa2
import Derived.Test.YtgakeclocbfnpaaDoorTb
import Derived.Test.YtgakeclocbfnpaaDoorTc
import Derived.Test.YtgakeclocbfnpaaDoorTd
import Derived.Test.YtgakeclocbfnpaaDoorTe
import Derived.Test.YtgakeclocbfnpaaDoorTf
import Derived.Test.YtgakeclocbfnpaaDoorTg
import Derived.Test.YtgakeclocbfnpaaDoorTh
import Derived.Test.YtgakeclocbfnpaaDoorTi
import Derived.Test.YtgakeclocbfnpaaDoorTja
import Derived.Test.YtgakeclocbfnpaaDoorTj
import Derived.Test.YtgakeclocbfnpaaDoorTka
import Derived.Test.YtgakeclocbfnpaaDoorTkb
import Derived.Test.YtgakeclocbfnpaaDoorTk
import Derived.Test.YtgakeclocbfnpaaDoorTl
import Derived.Test.YtgakeclocbfnpaaDoorTm
import Derived.Test.YtgakeclocbfnpaaDoorTn
import Derived.Test.YtgakeclocbfnpaaDoorTo
import Derived.Test.YtgakeclocbfnpaaDoorTp
import Derived.WalkKit
import Derived.Outline
import Derived.WalkLawsBesides
import Derived.Deep.QuietTactic
import Derived.BigQuiet
import Derived.Lib.Hide
import Derived.Handy
import Derived.Deep.RegionHeld3
import Derived.Deep.DrawnRows
import Derived.KernelRfl
import Derived.Sort.Walk0
import Derived.Great.Walk
import Derived.Test.YtgakeclocbfnpaaDoorOwn
namespace Go.Proofs.YtgakeclocbfnpaaDoor.T
open Go Go.RowKit Mem Own
set_option maxRecDepth 100000
set_option maxHeartbeats 1000000
set_option linter.unusedVariables false
set_option linter.unusedSimpArgs false

theorem chk_at (w : World) (hT : U8 w) : Calls Tryd.prog 14 #[.slice (some ⟨w.heap.size, 0, none⟩) 2 2] (w.alloc (.cells #[.string ⟨#[103, 101, 116]⟩, .string ⟨#[97]⟩] 9)) fun e w' => e = .returned (.tuple #[spV (sp 2), .int .i64 0]) ∧ Below (w.heap.size + 1) (w.alloc (.cells #[.string ⟨#[103, 101, 116]⟩, .string ⟨#[97]⟩] 9)) w' := by
  have := check_is (some ⟨w.heap.size, 0, none⟩) gt 2 (w.alloc (.cells (vs gt).toArray 9)) (rd_lit w gt) (by decide) (by decide) (hT.below ((Below.refl _ _).alloc (Nat.le_refl _) _))
  rw [chk_gt, alloc_size] at this
  exact this
theorem keys_at (b : Nat) (w : World) (hT : U8 w) (hbw : w.heap.size = b) : Calls Tryd.prog 17 #[.slice (some ⟨b, 0, none⟩) 5 5] (w.alloc (.cells #[.string ⟨#[109, 115, 101, 116]⟩, .string ⟨#[97]⟩, .string ⟨#[49]⟩, .string ⟨#[98]⟩, .string ⟨#[50]⟩] 9)) fun e w' => ∃ C k, e = .returned (.slice C 2 k) ∧ RowKit.Hid (Rd w' C ab) ∧ Below (b + 1) (w.alloc (.cells #[.string ⟨#[109, 115, 101, 116]⟩, .string ⟨#[97]⟩, .string ⟨#[49]⟩, .string ⟨#[98]⟩, .string ⟨#[50]⟩] 9)) w' := by
  subst hbw
  have := keys_is (some ⟨w.heap.size, 0, none⟩) ms 5 (w.alloc (.cells (vs ms).toArray 9)) (rd_lit w ms) (by decide) (by decide) (hT.below ((Below.refl _ _).alloc (Nat.le_refl _) _))
  refine this.mono ?_
  rintro e w' ⟨C, k, rfl, hr, hb⟩
  rw [alloc_size] at hb
  rw [keys_ms] at hr ⊢
  exact ⟨C, k, rfl, hr, hb⟩
theorem same_ab (b : Nat) (C : Option Addr) (k : Nat) (w : World) (h : RowKit.Hid (Rd w C ab)) (hbw : w.heap.size = b) : Calls Tryd.prog 16 #[.slice C 2 k, .slice (some ⟨b, 0, none⟩) 2 2] (w.alloc (.cells #[.string ⟨#[97]⟩, .string ⟨#[98]⟩] 9)) fun e w' => e = .returned (.bool true) ∧ Below (b + 1) (w.alloc (.cells #[.string ⟨#[97]⟩, .string ⟨#[98]⟩] 9)) w' := by
  subst hbw
  have := same_eq C (some ⟨w.heap.size, 0, none⟩) ab k 2 (w.alloc (.cells (vs ab).toArray 9)) (h.out.alloc _) (rd_lit w ab) (by decide)
  rw [alloc_size] at this
  exact this
/-- alive -/
theorem alive_is (w : World) (hT : U8 w) : Calls Tryd.prog 11 #[] w fun e w' => e = .returned (.bool true) ∧ Below w.heap.size w w' := by
  have HT := Lib.hid hT
  clear hT
  go_enter Tryd.func11, Tryd.ntmps11
  go_upto_region 1 with fail
  go_cut [1, 2] (fun s1 s2 wx => ∃ b1 : Nat, s1 = .pointer (some ⟨b1, 0, none⟩) ∧ s2 = .int .i64 0 ∧ RowKit.Hid (wx.heap[b1]? = some (.cells #[.string (sp 2).name, .int .i64 (sp 2).least, .int .i64 (sp 2).most, .int .i64 (sp 2).first, .int .i64 (sp 2).last, .int .i64 (sp 2).step, .bool (sp 2).writes] 25 (0, 0))) ∧ RowKit.Hid (Below w.heap.size w wx))
  case first =>
    go_wp2_with fail
    refine Calls.mono (chk_at w HT.out) ?_
    rintro e w1 ⟨rfl, hb1⟩
    have HB1 := Lib.hid (((Below.refl w.heap.size w).alloc (Nat.le_refl _) _).trans (hb1.mono (Nat.le_succ _)))
    clear hb1
    go_wp2
    go_meet
    exact ⟨_, rfl, rfl, Lib.hid (heap_alloc_new _ _), Lib.hid (HB1.out.alloc HB1.out.size _)⟩
  case rest =>
    obtain ⟨b1, rfl, rfl, HY, HB⟩ := hcut
    have e0 : wc.cell? ⟨b1, 0, none⟩ = some (.string ⟨#[71, 69, 84]⟩) := of_block HY.out 0
    have HTc := Lib.hid (HT.out.below HB.out)
    go_wp2_with (first
      | (go_at_call 9; refine (all9_is _).mono ?_; rintro e w1 ⟨rfl, rfl⟩)
      | (go_at_call 17; refine Calls.mono (keys_at _ _ (HTc.out.below ?_) ?_) ?_; (focus ((repeat (first | exact Below.refl _ _ | (refine Below.drew ?_) | (refine Go.below_drewN ?_ _) | (refine Below.alloc ?_ (by first | (simp; done) | omega | (simp; omega)) _) | (refine Below.setCell ?_ (by first | (simp; done) | omega | (simp; omega)) _) | (refine Below.trans ?_ (Below.mono (by assumption) (by first | (simp; done) | omega | (simp; omega)))))); done)); (focus (simp; done)); rintro e w2 ⟨C, k, rfl, hr, hb2⟩)
      | (go_at_call 16; refine Calls.mono (same_ab _ C k _ hr ?_) ?_; (focus (simp; done)); rintro e w3 ⟨rfl, hb3⟩))
    go_ret
    have a1 := ((Below.refl wc.heap.size wc).alloc (Nat.le_refl _) (.cells cells 25)).alloc (by simp) (.cells #[.string ⟨#[109, 115, 101, 116]⟩, .string ⟨#[97]⟩, .string ⟨#[49]⟩, .string ⟨#[98]⟩, .string ⟨#[50]⟩] 9)
    have a2 := a1.trans (hb2.mono (by omega))
    have a3 := a2.alloc a2.size (.cells #[.string ⟨#[97]⟩, .string ⟨#[98]⟩] 9)
    have a4 := a3.trans (hb3.mono (by have := a2.size; omega))
    exact ⟨rfl, HB.out.trans (a4.mono HB.out.size)⟩
end Go.Proofs.YtgakeclocbfnpaaDoor.T
