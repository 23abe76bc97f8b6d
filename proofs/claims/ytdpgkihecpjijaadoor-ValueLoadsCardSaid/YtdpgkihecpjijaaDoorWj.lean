import Derived.Deep.DeepCutAuto
import Derived.Laws.OwnMore
import Derived.OwnWalk
import Derived.Lib.AppendStr
import Derived.Laws.IdiomStrings
import Derived.Lib.ConvBytes
import Derived.Lib.SmallJoins
import Derived.IntWalk
import Derived.Deep.AppendLies
import Derived.Deep.RegionLaw
import Derived.Test.YtdpgkihecpjijaaDoorProg
import Derived.Test.YtdpgkihecpjijaaDoorMem
import Derived.Test.YtdpgkihecpjijaaDoorVw
import Derived.Test.YtdpgkihecpjijaaDoorVx
import Derived.Test.YtdpgkihecpjijaaDoorWc
import Derived.Test.YtdpgkihecpjijaaDoorWf
import Derived.Test.YtdpgkihecpjijaaDoorWh
import Derived.Test.YtdpgkihecpjijaaDoorWi
import Derived.WalkKit
import Derived.Outline
import Derived.WalkLawsBesides
import Derived.Deep.QuietTactic
import Derived.BigQuiet
import Derived.Lib.Hide
import Derived.Handy
import Derived.Deep.RegionHeld3
import Derived.Deep.DrawnRows
import Derived.KernelRfl
import Derived.Sort.Walk0
import Derived.Great.Walk
import Derived.Test.YtdpgkihecpjijaaDoorOwn
namespace Go.Proofs.YtdpgkihecpjijaaDoor.T
open Go Go.RowKit Mem Own
set_option maxRecDepth 100000
set_option maxHeartbeats 1000000
set_option linter.unusedVariables false
set_option linter.unusedSimpArgs false

theorem rright_1 (k : Int) (t : ByteArray) (ps : List (ByteArray × ByteArray)) (is : List ByteArray) (re im : Int) (PA : Option Addr) (pc : Nat) (IA : Option Addr) (ic : Nat) (w : World) (hp : RdP w PA ps) (hi : Rd w IA is) (np : ps.length ≤ 2 ^ 40) (ni : is.length ≤ 2 ^ 40)
  (hk : k = 1) :
    Calls Tryd.prog 19 #[vV k t PA ps.length pc IA is.length ic re im] w (BoolOut (RightV ⟨k, t, ps, is, re, im⟩) w) := by
  have HP := Lib.hid hp; have HI := Lib.hid hi
  have hu := Tryd.underlying25
  clear hp hi
  subst hk
  by_cases hps : ps = []
  · subst hps
    by_cases his : is = []
    · subst his
      by_cases hre : re = 0
      · subst hre
        by_cases him : im = 0
        · subst him
          by_cases hz : t.size ≤ 4096
          · have hd : decide ((t.size : Int) ≤ 4096) = true := by rw [decide_eq_true_iff]; omega
            have HZ := Lib.hid hz
            clear hz
            go_enter Tryd.func19, Tryd.ntmps19
            go_wp2
            go_ret
            exact ⟨true, rfl, ⟨fun _ => (right1 rfl rfl).2 HZ.out, fun _ => rfl⟩, (by ((repeat (first | exact Below.refl _ _ | (refine Below.drew ?_) | (refine Go.below_drewN ?_ _) | (refine Below.alloc ?_ (by first | (simp; done) | omega | (simp; omega)) _) | (refine Below.setCell ?_ (by first | (simp; done) | omega | (simp; omega)) _) | (refine Below.trans ?_ (Below.mono (by assumption) (by first | (simp; done) | omega | (simp; omega)))))); done))⟩
          · have hd : decide ((t.size : Int) ≤ 4096) = false := by rw [decide_eq_false_iff_not]; omega
            have HZ := Lib.hid hz
            clear hz
            go_enter Tryd.func19, Tryd.ntmps19
            go_wp2
            go_ret
            exact ⟨false, rfl, no_iff fun h => HZ.out ((right1 rfl rfl).1 h), (by ((repeat (first | exact Below.refl _ _ | (refine Below.drew ?_) | (refine Go.below_drewN ?_ _) | (refine Below.alloc ?_ (by first | (simp; done) | omega | (simp; omega)) _) | (refine Below.setCell ?_ (by first | (simp; done) | omega | (simp; omega)) _) | (refine Below.trans ?_ (Below.mono (by assumption) (by first | (simp; done) | omega | (simp; omega)))))); done))⟩
        · skip
          have NE := Lib.hid (show ¬ RightV _ from fun h => by have e := congrArg Vl.im h.1; simp [bareV] at e; exact him e : ¬ RightV ⟨1, t, [], [], 0, im⟩)
          go_enter Tryd.func19, Tryd.ntmps19
          go_wp2
          go_ret
          exact ⟨false, rfl, no_iff NE.out, (by ((repeat (first | exact Below.refl _ _ | (refine Below.drew ?_) | (refine Go.below_drewN ?_ _) | (refine Below.alloc ?_ (by first | (simp; done) | omega | (simp; omega)) _) | (refine Below.setCell ?_ (by first | (simp; done) | omega | (simp; omega)) _) | (refine Below.trans ?_ (Below.mono (by assumption) (by first | (simp; done) | omega | (simp; omega)))))); done))⟩
      · skip
        have NE := Lib.hid (show ¬ RightV _ from fun h => by have e := congrArg Vl.re h.1; simp [bareV] at e; exact hre e : ¬ RightV ⟨1, t, [], [], re, im⟩)
        go_enter Tryd.func19, Tryd.ntmps19
        go_wp2
        go_ret
        exact ⟨false, rfl, no_iff NE.out, (by ((repeat (first | exact Below.refl _ _ | (refine Below.drew ?_) | (refine Go.below_drewN ?_ _) | (refine Below.alloc ?_ (by first | (simp; done) | omega | (simp; omega)) _) | (refine Below.setCell ?_ (by first | (simp; done) | omega | (simp; omega)) _) | (refine Below.trans ?_ (Below.mono (by assumption) (by first | (simp; done) | omega | (simp; omega)))))); done))⟩
    · have x3 : 0 < is.length := List.length_pos_iff.2 his
      have NE := Lib.hid (show ¬ RightV _ from fun h => by have e := congrArg Vl.items h.1; simp [bareV] at e; exact his e : ¬ RightV ⟨1, t, [], is, re, im⟩)
      go_enter Tryd.func19, Tryd.ntmps19
      go_wp2
      go_ret
      exact ⟨false, rfl, no_iff NE.out, (by ((repeat (first | exact Below.refl _ _ | (refine Below.drew ?_) | (refine Go.below_drewN ?_ _) | (refine Below.alloc ?_ (by first | (simp; done) | omega | (simp; omega)) _) | (refine Below.setCell ?_ (by first | (simp; done) | omega | (simp; omega)) _) | (refine Below.trans ?_ (Below.mono (by assumption) (by first | (simp; done) | omega | (simp; omega)))))); done))⟩
  · have x2 : 0 < ps.length := List.length_pos_iff.2 hps
    have NE := Lib.hid (show ¬ RightV _ from fun h => by have e := congrArg Vl.pairs h.1; simp [bareV] at e; exact hps e : ¬ RightV ⟨1, t, ps, is, re, im⟩)
    go_enter Tryd.func19, Tryd.ntmps19
    go_wp2
    go_ret
    exact ⟨false, rfl, no_iff NE.out, (by ((repeat (first | exact Below.refl _ _ | (refine Below.drew ?_) | (refine Go.below_drewN ?_ _) | (refine Below.alloc ?_ (by first | (simp; done) | omega | (simp; omega)) _) | (refine Below.setCell ?_ (by first | (simp; done) | omega | (simp; omega)) _) | (refine Below.trans ?_ (Below.mono (by assumption) (by first | (simp; done) | omega | (simp; omega)))))); done))⟩
theorem rright_o (k : Int) (t : ByteArray) (ps : List (ByteArray × ByteArray)) (is : List ByteArray) (re im : Int) (PA : Option Addr) (pc : Nat) (IA : Option Addr) (ic : Nat) (w : World) (hp : RdP w PA ps) (hi : Rd w IA is) (np : ps.length ≤ 2 ^ 40) (ni : is.length ≤ 2 ^ 40)
  (hk : ¬ k = 1 ∧ ¬ k = 2 ∧ ¬ k = 3 ∧ ¬ k = 4 ∧ ¬ k = 5) :
    Calls Tryd.prog 19 #[vV k t PA ps.length pc IA is.length ic re im] w (BoolOut (RightV ⟨k, t, ps, is, re, im⟩) w) := by
  have HP := Lib.hid hp; have HI := Lib.hid hi
  have hu := Tryd.underlying25
  clear hp hi
  obtain ⟨k1, k2, k3, k4, k5⟩ := hk
  have m1 : (k == 1) = false := by simp [k1]
  have m2 : (k == 2) = false := by simp [k2]
  have m3 : (k == 3) = false := by simp [k3]
  have m4 : (k == 4) = false := by simp [k4]
  have m5 : (k == 5) = false := by simp [k5]
  by_cases ht : t = ⟨#[]⟩
  · subst ht
    by_cases hps : ps = []
    · subst hps
      by_cases his : is = []
      · subst his
        by_cases hre : re = 0
        · subst hre
          by_cases him : im = 0
          · subst him
            go_enter Tryd.func19, Tryd.ntmps19
            go_wp2
            go_ret
            exact ⟨false, rfl, no_iff (right_other ⟨m1, m2, m3, m4, m5⟩), (by ((repeat (first | exact Below.refl _ _ | (refine Below.drew ?_) | (refine Go.below_drewN ?_ _) | (refine Below.alloc ?_ (by first | (simp; done) | omega | (simp; omega)) _) | (refine Below.setCell ?_ (by first | (simp; done) | omega | (simp; omega)) _) | (refine Below.trans ?_ (Below.mono (by assumption) (by first | (simp; done) | omega | (simp; omega)))))); done))⟩
          · skip
            have NE := Lib.hid (show ¬ RightV _ from fun h => by have e := congrArg Vl.im h.1; simp [bareV, k1, k2, k3, k4, k5] at e; exact him e : ¬ RightV ⟨k, ⟨#[]⟩, [], [], 0, im⟩)
            go_enter Tryd.func19, Tryd.ntmps19
            go_wp2
            go_ret
            exact ⟨false, rfl, no_iff NE.out, (by ((repeat (first | exact Below.refl _ _ | (refine Below.drew ?_) | (refine Go.below_drewN ?_ _) | (refine Below.alloc ?_ (by first | (simp; done) | omega | (simp; omega)) _) | (refine Below.setCell ?_ (by first | (simp; done) | omega | (simp; omega)) _) | (refine Below.trans ?_ (Below.mono (by assumption) (by first | (simp; done) | omega | (simp; omega)))))); done))⟩
        · skip
          have NE := Lib.hid (show ¬ RightV _ from fun h => by have e := congrArg Vl.re h.1; simp [bareV, k1, k2, k3, k4, k5] at e; exact hre e : ¬ RightV ⟨k, ⟨#[]⟩, [], [], re, im⟩)
          go_enter Tryd.func19, Tryd.ntmps19
          go_wp2
          go_ret
          exact ⟨false, rfl, no_iff NE.out, (by ((repeat (first | exact Below.refl _ _ | (refine Below.drew ?_) | (refine Go.below_drewN ?_ _) | (refine Below.alloc ?_ (by first | (simp; done) | omega | (simp; omega)) _) | (refine Below.setCell ?_ (by first | (simp; done) | omega | (simp; omega)) _) | (refine Below.trans ?_ (Below.mono (by assumption) (by first | (simp; done) | omega | (simp; omega)))))); done))⟩
      · have x3 : 0 < is.length := List.length_pos_iff.2 his
        have NE := Lib.hid (show ¬ RightV _ from fun h => by have e := congrArg Vl.items h.1; simp [bareV, k1, k2, k3, k4, k5] at e; exact his e : ¬ RightV ⟨k, ⟨#[]⟩, [], is, re, im⟩)
        go_enter Tryd.func19, Tryd.ntmps19
        go_wp2
        go_ret
        exact ⟨false, rfl, no_iff NE.out, (by ((repeat (first | exact Below.refl _ _ | (refine Below.drew ?_) | (refine Go.below_drewN ?_ _) | (refine Below.alloc ?_ (by first | (simp; done) | omega | (simp; omega)) _) | (refine Below.setCell ?_ (by first | (simp; done) | omega | (simp; omega)) _) | (refine Below.trans ?_ (Below.mono (by assumption) (by first | (simp; done) | omega | (simp; omega)))))); done))⟩
    · have x2 : 0 < ps.length := List.length_pos_iff.2 hps
      have NE := Lib.hid (show ¬ RightV _ from fun h => by have e := congrArg Vl.pairs h.1; simp [bareV, k1, k2, k3, k4, k5] at e; exact hps e : ¬ RightV ⟨k, ⟨#[]⟩, ps, is, re, im⟩)
      go_enter Tryd.func19, Tryd.ntmps19
      go_wp2
      go_ret
      exact ⟨false, rfl, no_iff NE.out, (by ((repeat (first | exact Below.refl _ _ | (refine Below.drew ?_) | (refine Go.below_drewN ?_ _) | (refine Below.alloc ?_ (by first | (simp; done) | omega | (simp; omega)) _) | (refine Below.setCell ?_ (by first | (simp; done) | omega | (simp; omega)) _) | (refine Below.trans ?_ (Below.mono (by assumption) (by first | (simp; done) | omega | (simp; omega)))))); done))⟩
  · have x1 : ¬ t.toList = [] := fun e => ht (by rw [ByteArray.toList_eq] at e; exact ByteArray.ext (Array.ext' e))
    have NE := Lib.hid (show ¬ RightV _ from fun h => by have e := congrArg Vl.text h.1; simp [bareV, k1, k2, k3, k4, k5] at e; exact ht e : ¬ RightV ⟨k, t, ps, is, re, im⟩)
    go_enter Tryd.func19, Tryd.ntmps19
    go_wp2
    go_ret
    exact ⟨false, rfl, no_iff NE.out, (by ((repeat (first | exact Below.refl _ _ | (refine Below.drew ?_) | (refine Go.below_drewN ?_ _) | (refine Below.alloc ?_ (by first | (simp; done) | omega | (simp; omega)) _) | (refine Below.setCell ?_ (by first | (simp; done) | omega | (simp; omega)) _) | (refine Below.trans ?_ (Below.mono (by assumption) (by first | (simp; done) | omega | (simp; omega)))))); done))⟩
end Go.Proofs.YtdpgkihecpjijaaDoor.T
