import Derived.Deep.DeepCutAuto
import Derived.Laws.OwnMore
import Derived.OwnWalk
import Derived.Lib.AppendStr
import Derived.Laws.IdiomStrings
import Derived.Lib.ConvBytes
import Derived.Lib.SmallJoins
import Derived.IntWalk
import Derived.Deep.AppendLies
import Derived.Deep.RegionLaw
import Derived.Test.YtdpgkihecpjijaaDoorProg
import Derived.Test.YtdpgkihecpjijaaDoorMem
import Derived.Test.YtdpgkihecpjijaaDoorVw
import Derived.Test.YtdpgkihecpjijaaDoorVx
import Derived.Test.YtdpgkihecpjijaaDoorWc
import Derived.Test.YtdpgkihecpjijaaDoorWf
import Derived.Test.YtdpgkihecpjijaaDoorWh
import Derived.Test.YtdpgkihecpjijaaDoorWi
import Derived.Test.YtdpgkihecpjijaaDoorWk
import Derived.WalkKit
import Derived.Outline
import Derived.WalkLawsBesides
import Derived.Deep.QuietTactic
import Derived.BigQuiet
import Derived.Lib.Hide
import Derived.Handy
import Derived.Deep.RegionHeld3
import Derived.Deep.DrawnRows
import Derived.KernelRfl
import Derived.Great.Walk
import Derived.Test.YtdpgkihecpjijaaDoorOwn
namespace Go.Proofs.YtdpgkihecpjijaaDoor.T
open Go Go.RowKit Mem Own
set_option maxRecDepth 100000
set_option maxHeartbeats 1000000
set_option linter.unusedVariables false
set_option linter.unusedSimpArgs false

theorem rright_4 (k : Int) (t : ByteArray) (ps : List (ByteArray × ByteArray)) (is : List ByteArray) (re im : Int) (PA : Option Addr) (pc : Nat) (IA : Option Addr) (ic : Nat) (w : World) (hp : RdP w PA ps) (hi : Rd w IA is) (np : ps.length ≤ 2 ^ 40) (ni : is.length ≤ 2 ^ 40)
  (hk : k = 4) :
    Calls Tryd.prog 19 #[vV k t PA ps.length pc IA is.length ic re im] w (BoolOut (RightV ⟨k, t, ps, is, re, im⟩) w) := by
  have HP := Lib.hid hp; have HI := Lib.hid hi
  have hu := Tryd.underlying25
  clear hp hi
  subst hk
  by_cases ht : t = ⟨#[]⟩
  · subst ht
    by_cases hps : ps = []
    · subst hps
      by_cases hre : re = 0
      · subst hre
        by_cases him : im = 0
        · subst him
          by_cases hx : itemsShort is ∧ cnt is.length
          · have HX := Lib.hid hx
            clear hx
            by_cases hs : Srt is
            · have HS := Lib.hid hs
              clear hs
              go_enter Tryd.func19, Tryd.ntmps19
              go_wp2_with (first
            | (go_at_call 44; refine Calls.mono (fits_yes _ is _ _ (HI.out.below ?_) (by unfold maxLen; omega) HX.out) ?_; (focus ((repeat (first | exact Below.refl _ _ | (refine Below.drew ?_) | (refine Go.below_drewN ?_ _) | (refine Below.alloc ?_ (by first | (simp; done) | omega | (simp; omega)) _) | (refine Below.setCell ?_ (by first | (simp; done) | omega | (simp; omega)) _) | (refine Below.trans ?_ (Below.mono (by assumption) (by first | (simp; done) | omega | (simp; omega)))))); done)); rintro e w1 ⟨rfl, hb1⟩; have hz1 := hb1.size; (try simp at hz1); have HBX := Lib.hid (keep_block hb1 (keep_block ((Below.refl _ _).alloc (Nat.le_refl _) _) (heap_alloc_new _ _))); obtain ⟨d0, d1, d2, d3, d4, d5⟩ := facts6 HBX.out)
            | (go_at_call 45; refine Calls.mono (rsright_yes _ is _ _ (HI.out.below ?_) (by unfold maxLen; omega) HS.out) ?_; (focus ((repeat (first | exact Below.refl _ _ | (refine Below.drew ?_) | (refine Go.below_drewN ?_ _) | (refine Below.alloc ?_ (by first | (simp; done) | omega | (simp; omega)) _) | (refine Below.setCell ?_ (by first | (simp; done) | omega | (simp; omega)) _) | (refine Below.trans ?_ (Below.mono (by assumption) (by first | (simp; done) | omega | (simp; omega)))))); done)); rintro e w2 ⟨rfl, hb2⟩))
              go_ret
              exact ⟨true, rfl, ⟨fun _ => (right4 rfl rfl).2 ⟨HS.out, HX.out⟩, fun _ => rfl⟩, (by ((repeat (first | exact Below.refl _ _ | (refine Below.drew ?_) | (refine Go.below_drewN ?_ _) | (refine Below.alloc ?_ (by first | (simp; done) | omega | (simp; omega)) _) | (refine Below.setCell ?_ (by first | (simp; done) | omega | (simp; omega)) _) | (refine Below.trans ?_ (Below.mono (by assumption) (by first | (simp; done) | omega | (simp; omega)))))); done))⟩
            · have HS := Lib.hid hs
              clear hs
              go_enter Tryd.func19, Tryd.ntmps19
              go_wp2_with (first
            | (go_at_call 44; refine Calls.mono (fits_yes _ is _ _ (HI.out.below ?_) (by unfold maxLen; omega) HX.out) ?_; (focus ((repeat (first | exact Below.refl _ _ | (refine Below.drew ?_) | (refine Go.below_drewN ?_ _) | (refine Below.alloc ?_ (by first | (simp; done) | omega | (simp; omega)) _) | (refine Below.setCell ?_ (by first | (simp; done) | omega | (simp; omega)) _) | (refine Below.trans ?_ (Below.mono (by assumption) (by first | (simp; done) | omega | (simp; omega)))))); done)); rintro e w1 ⟨rfl, hb1⟩; have hz1 := hb1.size; (try simp at hz1); have HBX := Lib.hid (keep_block hb1 (keep_block ((Below.refl _ _).alloc (Nat.le_refl _) _) (heap_alloc_new _ _))); obtain ⟨d0, d1, d2, d3, d4, d5⟩ := facts6 HBX.out)
            | (go_at_call 45; refine Calls.mono (rsright_no _ is _ _ (HI.out.below ?_) (by unfold maxLen; omega) HS.out) ?_; (focus ((repeat (first | exact Below.refl _ _ | (refine Below.drew ?_) | (refine Go.below_drewN ?_ _) | (refine Below.alloc ?_ (by first | (simp; done) | omega | (simp; omega)) _) | (refine Below.setCell ?_ (by first | (simp; done) | omega | (simp; omega)) _) | (refine Below.trans ?_ (Below.mono (by assumption) (by first | (simp; done) | omega | (simp; omega)))))); done)); rintro e w2 ⟨rfl, hb2⟩))
              go_ret
              exact ⟨false, rfl, no_iff fun h => HS.out ((right4 rfl rfl).1 h).1, (by ((repeat (first | exact Below.refl _ _ | (refine Below.drew ?_) | (refine Go.below_drewN ?_ _) | (refine Below.alloc ?_ (by first | (simp; done) | omega | (simp; omega)) _) | (refine Below.setCell ?_ (by first | (simp; done) | omega | (simp; omega)) _) | (refine Below.trans ?_ (Below.mono (by assumption) (by first | (simp; done) | omega | (simp; omega)))))); done))⟩
          · have HX := Lib.hid hx
            clear hx
            go_enter Tryd.func19, Tryd.ntmps19
            go_wp2_with (first
            | (go_at_call 44; refine Calls.mono (fits_no _ is _ _ (HI.out.below ?_) (by unfold maxLen; omega) HX.out) ?_; (focus ((repeat (first | exact Below.refl _ _ | (refine Below.drew ?_) | (refine Go.below_drewN ?_ _) | (refine Below.alloc ?_ (by first | (simp; done) | omega | (simp; omega)) _) | (refine Below.setCell ?_ (by first | (simp; done) | omega | (simp; omega)) _) | (refine Below.trans ?_ (Below.mono (by assumption) (by first | (simp; done) | omega | (simp; omega)))))); done)); rintro e w1 ⟨rfl, hb1⟩; have hz1 := hb1.size; (try simp at hz1)))
            go_ret
            exact ⟨false, rfl, no_iff fun h => HX.out ((right4 rfl rfl).1 h).2, (by ((repeat (first | exact Below.refl _ _ | (refine Below.drew ?_) | (refine Go.below_drewN ?_ _) | (refine Below.alloc ?_ (by first | (simp; done) | omega | (simp; omega)) _) | (refine Below.setCell ?_ (by first | (simp; done) | omega | (simp; omega)) _) | (refine Below.trans ?_ (Below.mono (by assumption) (by first | (simp; done) | omega | (simp; omega)))))); done))⟩
        · skip
          have NE := Lib.hid (show ¬ RightV _ from fun h => by have e := congrArg Vl.im h.1; simp [bareV] at e; exact him e : ¬ RightV ⟨4, ⟨#[]⟩, [], is, 0, im⟩)
          go_enter Tryd.func19, Tryd.ntmps19
          go_wp2
          go_ret
          exact ⟨false, rfl, no_iff NE.out, (by ((repeat (first | exact Below.refl _ _ | (refine Below.drew ?_) | (refine Go.below_drewN ?_ _) | (refine Below.alloc ?_ (by first | (simp; done) | omega | (simp; omega)) _) | (refine Below.setCell ?_ (by first | (simp; done) | omega | (simp; omega)) _) | (refine Below.trans ?_ (Below.mono (by assumption) (by first | (simp; done) | omega | (simp; omega)))))); done))⟩
      · skip
        have NE := Lib.hid (show ¬ RightV _ from fun h => by have e := congrArg Vl.re h.1; simp [bareV] at e; exact hre e : ¬ RightV ⟨4, ⟨#[]⟩, [], is, re, im⟩)
        go_enter Tryd.func19, Tryd.ntmps19
        go_wp2
        go_ret
        exact ⟨false, rfl, no_iff NE.out, (by ((repeat (first | exact Below.refl _ _ | (refine Below.drew ?_) | (refine Go.below_drewN ?_ _) | (refine Below.alloc ?_ (by first | (simp; done) | omega | (simp; omega)) _) | (refine Below.setCell ?_ (by first | (simp; done) | omega | (simp; omega)) _) | (refine Below.trans ?_ (Below.mono (by assumption) (by first | (simp; done) | omega | (simp; omega)))))); done))⟩
    · have x2 : 0 < ps.length := List.length_pos_iff.2 hps
      have NE := Lib.hid (show ¬ RightV _ from fun h => by have e := congrArg Vl.pairs h.1; simp [bareV] at e; exact hps e : ¬ RightV ⟨4, ⟨#[]⟩, ps, is, re, im⟩)
      go_enter Tryd.func19, Tryd.ntmps19
      go_wp2
      go_ret
      exact ⟨false, rfl, no_iff NE.out, (by ((repeat (first | exact Below.refl _ _ | (refine Below.drew ?_) | (refine Go.below_drewN ?_ _) | (refine Below.alloc ?_ (by first | (simp; done) | omega | (simp; omega)) _) | (refine Below.setCell ?_ (by first | (simp; done) | omega | (simp; omega)) _) | (refine Below.trans ?_ (Below.mono (by assumption) (by first | (simp; done) | omega | (simp; omega)))))); done))⟩
  · have x1 : ¬ t.toList = [] := fun e => ht (by rw [ByteArray.toList_eq] at e; exact ByteArray.ext (Array.ext' e))
    have NE := Lib.hid (show ¬ RightV _ from fun h => by have e := congrArg Vl.text h.1; simp [bareV] at e; exact ht e : ¬ RightV ⟨4, t, ps, is, re, im⟩)
    go_enter Tryd.func19, Tryd.ntmps19
    go_wp2
    go_ret
    exact ⟨false, rfl, no_iff NE.out, (by ((repeat (first | exact Below.refl _ _ | (refine Below.drew ?_) | (refine Go.below_drewN ?_ _) | (refine Below.alloc ?_ (by first | (simp; done) | omega | (simp; omega)) _) | (refine Below.setCell ?_ (by first | (simp; done) | omega | (simp; omega)) _) | (refine Below.trans ?_ (Below.mono (by assumption) (by first | (simp; done) | omega | (simp; omega)))))); done))⟩
end Go.Proofs.YtdpgkihecpjijaaDoor.T
