import Derived.Deep.DeepCutAuto
import Derived.Laws.OwnMore
import Derived.OwnWalk
import Derived.Lib.AppendStr
import Derived.Laws.IdiomStrings
import Derived.Lib.ConvBytes
import Derived.Lib.SmallJoins
import Derived.IntWalk
import Derived.Deep.AppendLies
import Derived.Deep.RegionLaw
import Derived.Test.YtdpgkihecpjijaaDoorProg
import Derived.Test.YtdpgkihecpjijaaDoorMem
import Derived.Test.YtdpgkihecpjijaaDoorVw
import Derived.Test.YtdpgkihecpjijaaDoorVx
import Derived.Test.YtdpgkihecpjijaaDoorWc
import Derived.WalkKit
import Derived.Outline
import Derived.WalkLawsBesides
import Derived.Deep.QuietTactic
import Derived.BigQuiet
import Derived.Lib.Hide
import Derived.Handy
import Derived.Deep.RegionHeld3
import Derived.Deep.DrawnRows
import Derived.KernelRfl
import Derived.Sort.Walk0
import Derived.Great.Walk
import Derived.Test.YtdpgkihecpjijaaDoorOwn
namespace Go.Proofs.YtdpgkihecpjijaaDoor.T
open Go Go.RowKit Mem Own
set_option maxRecDepth 100000
set_option maxHeartbeats 1000000
set_option linter.unusedVariables false
set_option linter.unusedSimpArgs false

/-- few -/
def fewV (a : Vl) : Prop := a.pairs.length ≤ 600 ∧ a.items.length ≤ 600
theorem few_is (v : Value) (a : Vl) (w : World) (hv : VRd w v a) : Calls Tryd.prog 11 #[v] w (BoolOut (fewV a) w) := by
  obtain ⟨⟨PA, pc, IA, ic, rfl, -, -⟩, -⟩ := hv
  obtain ⟨k, t, ps, is, re, im⟩ := a
  dsimp only
  have hu := Tryd.underlying25
  by_cases h1 : ps.length ≤ 600
  · have m1 : decide ((ps.length : Int) ≤ 600) = true := by rw [decide_eq_true_iff]; omega
    by_cases h2 : is.length ≤ 600
    · have m2 : decide ((is.length : Int) ≤ 600) = true := by rw [decide_eq_true_iff]; omega
      have H := Lib.hid (show fewV ⟨k, t, ps, is, re, im⟩ from ⟨h1, h2⟩)
      clear h1 h2
      go_enter Tryd.func11, Tryd.ntmps11
      go_wp2
      go_ret
      exact ⟨true, rfl, ⟨fun _ => H.out, fun _ => rfl⟩, (by ((repeat (first | exact Below.refl _ _ | (refine Below.drew ?_) | (refine Go.below_drewN ?_ _) | (refine Below.alloc ?_ (by first | (simp; done) | omega | (simp; omega)) _) | (refine Below.setCell ?_ (by first | (simp; done) | omega | (simp; omega)) _) | (refine Below.trans ?_ (Below.mono (by assumption) (by first | (simp; done) | omega | (simp; omega)))))); done))⟩
    · have m2 : decide ((is.length : Int) ≤ 600) = false := by rw [decide_eq_false_iff_not]; omega
      have H := Lib.hid (show ¬ fewV ⟨k, t, ps, is, re, im⟩ from fun h => h2 h.2)
      clear h1 h2
      go_enter Tryd.func11, Tryd.ntmps11
      go_wp2
      go_ret
      exact ⟨false, rfl, no_iff H.out, (by ((repeat (first | exact Below.refl _ _ | (refine Below.drew ?_) | (refine Go.below_drewN ?_ _) | (refine Below.alloc ?_ (by first | (simp; done) | omega | (simp; omega)) _) | (refine Below.setCell ?_ (by first | (simp; done) | omega | (simp; omega)) _) | (refine Below.trans ?_ (Below.mono (by assumption) (by first | (simp; done) | omega | (simp; omega)))))); done))⟩
  · have m1 : decide ((ps.length : Int) ≤ 600) = false := by rw [decide_eq_false_iff_not]; omega
    have H := Lib.hid (show ¬ fewV ⟨k, t, ps, is, re, im⟩ from fun h => h1 h.1)
    clear h1
    go_enter Tryd.func11, Tryd.ntmps11
    go_wp2
    go_ret
    exact ⟨false, rfl, no_iff H.out, (by ((repeat (first | exact Below.refl _ _ | (refine Below.drew ?_) | (refine Go.below_drewN ?_ _) | (refine Below.alloc ?_ (by first | (simp; done) | omega | (simp; omega)) _) | (refine Below.setCell ?_ (by first | (simp; done) | omega | (simp; omega)) _) | (refine Below.trans ?_ (Below.mono (by assumption) (by first | (simp; done) | omega | (simp; omega)))))); done))⟩
theorem wrap_u8n (n : Int) : IntKind.u8.wrap n = n % 256 := by simp [IntKind.wrap, IntKind.bits, IntKind.signed]
theorem own_two (w : World) (n : Nat) : (w.alloc (.cells #[.int .u8 ((n : Int) / 256 % 256), .int .u8 ((n : Int) % 256)] 5)).ownsRow w.heap.size 5 1 (.slice (some ⟨w.heap.size, 0, none⟩) 2 2) 2 (bs (two16 n)) := by
  have e : bs (two16 n) = [.int .u8 ((n : Int) / 256 % 256), .int .u8 ((n : Int) % 256)] := by
    simp [bs, two16, UInt8.toNat_ofNat']
  rw [e]
  exact World.ownsRow_lit (e := 5) (size := 1) w #[.int .u8 ((n : Int) / 256 % 256), .int .u8 ((n : Int) % 256)] 2 (Nat.le_refl _) (by decide) rfl
/-- ref10.two -/
theorem rtwo_is (n : Nat) (w : World) (hn : n ≤ maxLen) : Calls Tryd.prog 32 #[.int .i64 (n : Int)] w fun e w' => e = .returned (.string (B (two16 n))) ∧ Below w.heap.size w w' := by
  unfold maxLen at hn
  have kc := conv_own (own_two w n) (by simp [two16])
  go_enter Tryd.func32, Tryd.ntmps32
  go_wp2
  go_ret
  exact ⟨rfl, (by ((repeat (first | exact Below.refl _ _ | (refine Below.drew ?_) | (refine Go.below_drewN ?_ _) | (refine Below.alloc ?_ (by first | (simp; done) | omega | (simp; omega)) _) | (refine Below.setCell ?_ (by first | (simp; done) | omega | (simp; omega)) _) | (refine Below.trans ?_ (Below.mono (by assumption) (by first | (simp; done) | omega | (simp; omega)))))); done))⟩
end Go.Proofs.YtdpgkihecpjijaaDoor.T
