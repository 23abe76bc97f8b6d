import Derived.Deep.DeepCutAuto
import Derived.Laws.OwnMore
import Derived.OwnWalk
import Derived.Lib.AppendStr
import Derived.Laws.IdiomStrings
import Derived.Lib.ConvBytes
import Derived.Lib.SmallJoins
import Derived.IntWalk
import Derived.Deep.AppendLies
import Derived.Deep.RegionLaw
import Derived.Test.YtdpgkihecpjijaaDoorProg
import Derived.Test.YtdpgkihecpjijaaDoorMem
import Derived.Test.YtdpgkihecpjijaaDoorVw
import Derived.Test.YtdpgkihecpjijaaDoorVx
import Derived.Test.YtdpgkihecpjijaaDoorWc
import Derived.Test.YtdpgkihecpjijaaDoorWf
import Derived.Test.YtdpgkihecpjijaaDoorWh
import Derived.Test.YtdpgkihecpjijaaDoorWi
import Derived.WalkKit
import Derived.Outline
import Derived.WalkLawsBesides
import Derived.Deep.QuietTactic
import Derived.BigQuiet
import Derived.Lib.Hide
import Derived.Handy
import Derived.Deep.RegionHeld3
import Derived.Deep.DrawnRows
import Derived.KernelRfl
import Derived.Sort.Walk0
import Derived.Great.Walk
import Derived.Test.YtdpgkihecpjijaaDoorOwn
namespace Go.Proofs.YtdpgkihecpjijaaDoor.T
open Go Go.RowKit Mem Own
set_option maxRecDepth 100000
set_option maxHeartbeats 1000000
set_option linter.unusedVariables false
set_option linter.unusedSimpArgs false

theorem fits_yes (A : Option Addr) (l : List ByteArray) (c : Nat) (w : World) (ha : Rd w A l) (hn : l.length ≤ maxLen) (h : itemsShort l ∧ cnt l.length) : Calls Tryd.prog 44 #[.slice A l.length c] w fun e w' => e = .returned (.bool true) ∧ Below w.heap.size w w' :=
  (fits_is A l c w ha hn).mono fun e w' ⟨r, h1, h2, h3⟩ => ⟨by rw [h1, h2.2 h], h3⟩
theorem fits_no (A : Option Addr) (l : List ByteArray) (c : Nat) (w : World) (ha : Rd w A l) (hn : l.length ≤ maxLen) (h : ¬ (itemsShort l ∧ cnt l.length)) : Calls Tryd.prog 44 #[.slice A l.length c] w fun e w' => e = .returned (.bool false) ∧ Below w.heap.size w w' :=
  (fits_is A l c w ha hn).mono fun e w' ⟨r, h1, h2, h3⟩ => ⟨by rw [h1]; cases r; rfl; exact absurd (h2.1 rfl) h, h3⟩
theorem rsright_yes (A : Option Addr) (l : List ByteArray) (c : Nat) (w : World) (ha : Rd w A l) (hn : l.length ≤ maxLen) (h : Srt l) : Calls Tryd.prog 45 #[.slice A l.length c] w fun e w' => e = .returned (.bool true) ∧ Below w.heap.size w w' :=
  (rsright_is A l c w ha hn).mono fun e w' ⟨r, h1, h2, h3⟩ => ⟨by rw [h1, h2.2 h], h3⟩
theorem rsright_no (A : Option Addr) (l : List ByteArray) (c : Nat) (w : World) (ha : Rd w A l) (hn : l.length ≤ maxLen) (h : ¬ Srt l) : Calls Tryd.prog 45 #[.slice A l.length c] w fun e w' => e = .returned (.bool false) ∧ Below w.heap.size w w' :=
  (rsright_is A l c w ha hn).mono fun e w' ⟨r, h1, h2, h3⟩ => ⟨by rw [h1]; cases r; rfl; exact absurd (h2.1 rfl) h, h3⟩
theorem rright_3 (k : Int) (t : ByteArray) (ps : List (ByteArray × ByteArray)) (is : List ByteArray) (re im : Int) (PA : Option Addr) (pc : Nat) (IA : Option Addr) (ic : Nat) (w : World) (hp : RdP w PA ps) (hi : Rd w IA is) (np : ps.length ≤ 2 ^ 40) (ni : is.length ≤ 2 ^ 40)
  (hk : k = 3) :
    Calls Tryd.prog 19 #[vV k t PA ps.length pc IA is.length ic re im] w (BoolOut (RightV ⟨k, t, ps, is, re, im⟩) w) := by
  have HP := Lib.hid hp; have HI := Lib.hid hi
  have hu := Tryd.underlying25
  clear hp hi
  subst hk
  by_cases ht : t = ⟨#[]⟩
  · subst ht
    by_cases hps : ps = []
    · subst hps
      by_cases hre : re = 0
      · subst hre
        by_cases him : im = 0
        · subst him
          by_cases hx : itemsShort is ∧ cnt is.length
          · have HX := Lib.hid hx
            clear hx
            go_enter Tryd.func19, Tryd.ntmps19
            go_wp2_with (first
            | (go_at_call 44; refine Calls.mono (fits_yes _ is _ _ (HI.out.below ?_) (by unfold maxLen; omega) HX.out) ?_; (focus ((repeat (first | exact Below.refl _ _ | (refine Below.drew ?_) | (refine Go.below_drewN ?_ _) | (refine Below.alloc ?_ (by first | (simp; done) | omega | (simp; omega)) _) | (refine Below.setCell ?_ (by first | (simp; done) | omega | (simp; omega)) _) | (refine Below.trans ?_ (Below.mono (by assumption) (by first | (simp; done) | omega | (simp; omega)))))); done)); rintro e w1 ⟨rfl, hb1⟩; have hz1 := hb1.size; (try simp at hz1)))
            go_ret
            exact ⟨true, rfl, ⟨fun _ => (right3 rfl rfl).2 HX.out, fun _ => rfl⟩, (by ((repeat (first | exact Below.refl _ _ | (refine Below.drew ?_) | (refine Go.below_drewN ?_ _) | (refine Below.alloc ?_ (by first | (simp; done) | omega | (simp; omega)) _) | (refine Below.setCell ?_ (by first | (simp; done) | omega | (simp; omega)) _) | (refine Below.trans ?_ (Below.mono (by assumption) (by first | (simp; done) | omega | (simp; omega)))))); done))⟩
          · have HX := Lib.hid hx
            clear hx
            go_enter Tryd.func19, Tryd.ntmps19
            go_wp2_with (first
            | (go_at_call 44; refine Calls.mono (fits_no _ is _ _ (HI.out.below ?_) (by unfold maxLen; omega) HX.out) ?_; (focus ((repeat (first | exact Below.refl _ _ | (refine Below.drew ?_) | (refine Go.below_drewN ?_ _) | (refine Below.alloc ?_ (by first | (simp; done) | omega | (simp; omega)) _) | (refine Below.setCell ?_ (by first | (simp; done) | omega | (simp; omega)) _) | (refine Below.trans ?_ (Below.mono (by assumption) (by first | (simp; done) | omega | (simp; omega)))))); done)); rintro e w1 ⟨rfl, hb1⟩; have hz1 := hb1.size; (try simp at hz1)))
            go_ret
            exact ⟨false, rfl, no_iff fun h => HX.out ((right3 rfl rfl).1 h), (by ((repeat (first | exact Below.refl _ _ | (refine Below.drew ?_) | (refine Go.below_drewN ?_ _) | (refine Below.alloc ?_ (by first | (simp; done) | omega | (simp; omega)) _) | (refine Below.setCell ?_ (by first | (simp; done) | omega | (simp; omega)) _) | (refine Below.trans ?_ (Below.mono (by assumption) (by first | (simp; done) | omega | (simp; omega)))))); done))⟩
        · skip
          have NE := Lib.hid (show ¬ RightV _ from fun h => by have e := congrArg Vl.im h.1; simp [bareV] at e; exact him e : ¬ RightV ⟨3, ⟨#[]⟩, [], is, 0, im⟩)
          go_enter Tryd.func19, Tryd.ntmps19
          go_wp2
          go_ret
          exact ⟨false, rfl, no_iff NE.out, (by ((repeat (first | exact Below.refl _ _ | (refine Below.drew ?_) | (refine Go.below_drewN ?_ _) | (refine Below.alloc ?_ (by first | (simp; done) | omega | (simp; omega)) _) | (refine Below.setCell ?_ (by first | (simp; done) | omega | (simp; omega)) _) | (refine Below.trans ?_ (Below.mono (by assumption) (by first | (simp; done) | omega | (simp; omega)))))); done))⟩
      · skip
        have NE := Lib.hid (show ¬ RightV _ from fun h => by have e := congrArg Vl.re h.1; simp [bareV] at e; exact hre e : ¬ RightV ⟨3, ⟨#[]⟩, [], is, re, im⟩)
        go_enter Tryd.func19, Tryd.ntmps19
        go_wp2
        go_ret
        exact ⟨false, rfl, no_iff NE.out, (by ((repeat (first | exact Below.refl _ _ | (refine Below.drew ?_) | (refine Go.below_drewN ?_ _) | (refine Below.alloc ?_ (by first | (simp; done) | omega | (simp; omega)) _) | (refine Below.setCell ?_ (by first | (simp; done) | omega | (simp; omega)) _) | (refine Below.trans ?_ (Below.mono (by assumption) (by first | (simp; done) | omega | (simp; omega)))))); done))⟩
    · have x2 : 0 < ps.length := List.length_pos_iff.2 hps
      have NE := Lib.hid (show ¬ RightV _ from fun h => by have e := congrArg Vl.pairs h.1; simp [bareV] at e; exact hps e : ¬ RightV ⟨3, ⟨#[]⟩, ps, is, re, im⟩)
      go_enter Tryd.func19, Tryd.ntmps19
      go_wp2
      go_ret
      exact ⟨false, rfl, no_iff NE.out, (by ((repeat (first | exact Below.refl _ _ | (refine Below.drew ?_) | (refine Go.below_drewN ?_ _) | (refine Below.alloc ?_ (by first | (simp; done) | omega | (simp; omega)) _) | (refine Below.setCell ?_ (by first | (simp; done) | omega | (simp; omega)) _) | (refine Below.trans ?_ (Below.mono (by assumption) (by first | (simp; done) | omega | (simp; omega)))))); done))⟩
  · have x1 : ¬ t.toList = [] := fun e => ht (by rw [ByteArray.toList_eq] at e; exact ByteArray.ext (Array.ext' e))
    have NE := Lib.hid (show ¬ RightV _ from fun h => by have e := congrArg Vl.text h.1; simp [bareV] at e; exact ht e : ¬ RightV ⟨3, t, ps, is, re, im⟩)
    go_enter Tryd.func19, Tryd.ntmps19
    go_wp2
    go_ret
    exact ⟨false, rfl, no_iff NE.out, (by ((repeat (first | exact Below.refl _ _ | (refine Below.drew ?_) | (refine Go.below_drewN ?_ _) | (refine Below.alloc ?_ (by first | (simp; done) | omega | (simp; omega)) _) | (refine Below.setCell ?_ (by first | (simp; done) | omega | (simp; omega)) _) | (refine Below.trans ?_ (Below.mono (by assumption) (by first | (simp; done) | omega | (simp; omega)))))); done))⟩
theorem rright_5 (k : Int) (t : ByteArray) (ps : List (ByteArray × ByteArray)) (is : List ByteArray) (re im : Int) (PA : Option Addr) (pc : Nat) (IA : Option Addr) (ic : Nat) (w : World) (hp : RdP w PA ps) (hi : Rd w IA is) (np : ps.length ≤ 2 ^ 40) (ni : is.length ≤ 2 ^ 40)
  (hk : k = 5) :
    Calls Tryd.prog 19 #[vV k t PA ps.length pc IA is.length ic re im] w (BoolOut (RightV ⟨k, t, ps, is, re, im⟩) w) := by
  have HP := Lib.hid hp; have HI := Lib.hid hi
  have hu := Tryd.underlying25
  clear hp hi
  subst hk
  by_cases ht : t = ⟨#[]⟩
  · subst ht
    by_cases hps : ps = []
    · subst hps
      by_cases his : is = []
      · subst his
        by_cases hx : ptOk re im
        · have HX := Lib.hid hx
          have HD := Lib.hid (decide_eq_true hx)
          clear hx
          go_enter Tryd.func19, Tryd.ntmps19
          go_wp2_with (first
            | (go_at_call 47; refine Calls.mono (rpright_is re im _) ?_; rintro e w1 ⟨rfl, hb1⟩; rw [HD.out]))
          go_ret
          exact ⟨true, rfl, ⟨fun _ => (right5 rfl rfl).2 HX.out, fun _ => rfl⟩, (by ((repeat (first | exact Below.refl _ _ | (refine Below.drew ?_) | (refine Go.below_drewN ?_ _) | (refine Below.alloc ?_ (by first | (simp; done) | omega | (simp; omega)) _) | (refine Below.setCell ?_ (by first | (simp; done) | omega | (simp; omega)) _) | (refine Below.trans ?_ (Below.mono (by assumption) (by first | (simp; done) | omega | (simp; omega)))))); done))⟩
        · have HX := Lib.hid hx
          have HD := Lib.hid (decide_eq_false hx)
          clear hx
          go_enter Tryd.func19, Tryd.ntmps19
          go_wp2_with (first
            | (go_at_call 47; refine Calls.mono (rpright_is re im _) ?_; rintro e w1 ⟨rfl, hb1⟩; rw [HD.out]))
          go_ret
          exact ⟨false, rfl, no_iff fun h => HX.out ((right5 rfl rfl).1 h), (by ((repeat (first | exact Below.refl _ _ | (refine Below.drew ?_) | (refine Go.below_drewN ?_ _) | (refine Below.alloc ?_ (by first | (simp; done) | omega | (simp; omega)) _) | (refine Below.setCell ?_ (by first | (simp; done) | omega | (simp; omega)) _) | (refine Below.trans ?_ (Below.mono (by assumption) (by first | (simp; done) | omega | (simp; omega)))))); done))⟩
      · have x3 : 0 < is.length := List.length_pos_iff.2 his
        have NE := Lib.hid (show ¬ RightV _ from fun h => by have e := congrArg Vl.items h.1; simp [bareV] at e; exact his e : ¬ RightV ⟨5, ⟨#[]⟩, [], is, re, im⟩)
        go_enter Tryd.func19, Tryd.ntmps19
        go_wp2
        go_ret
        exact ⟨false, rfl, no_iff NE.out, (by ((repeat (first | exact Below.refl _ _ | (refine Below.drew ?_) | (refine Go.below_drewN ?_ _) | (refine Below.alloc ?_ (by first | (simp; done) | omega | (simp; omega)) _) | (refine Below.setCell ?_ (by first | (simp; done) | omega | (simp; omega)) _) | (refine Below.trans ?_ (Below.mono (by assumption) (by first | (simp; done) | omega | (simp; omega)))))); done))⟩
    · have x2 : 0 < ps.length := List.length_pos_iff.2 hps
      have NE := Lib.hid (show ¬ RightV _ from fun h => by have e := congrArg Vl.pairs h.1; simp [bareV] at e; exact hps e : ¬ RightV ⟨5, ⟨#[]⟩, ps, is, re, im⟩)
      go_enter Tryd.func19, Tryd.ntmps19
      go_wp2
      go_ret
      exact ⟨false, rfl, no_iff NE.out, (by ((repeat (first | exact Below.refl _ _ | (refine Below.drew ?_) | (refine Go.below_drewN ?_ _) | (refine Below.alloc ?_ (by first | (simp; done) | omega | (simp; omega)) _) | (refine Below.setCell ?_ (by first | (simp; done) | omega | (simp; omega)) _) | (refine Below.trans ?_ (Below.mono (by assumption) (by first | (simp; done) | omega | (simp; omega)))))); done))⟩
  · have x1 : ¬ t.toList = [] := fun e => ht (by rw [ByteArray.toList_eq] at e; exact ByteArray.ext (Array.ext' e))
    have NE := Lib.hid (show ¬ RightV _ from fun h => by have e := congrArg Vl.text h.1; simp [bareV] at e; exact ht e : ¬ RightV ⟨5, t, ps, is, re, im⟩)
    go_enter Tryd.func19, Tryd.ntmps19
    go_wp2
    go_ret
    exact ⟨false, rfl, no_iff NE.out, (by ((repeat (first | exact Below.refl _ _ | (refine Below.drew ?_) | (refine Go.below_drewN ?_ _) | (refine Below.alloc ?_ (by first | (simp; done) | omega | (simp; omega)) _) | (refine Below.setCell ?_ (by first | (simp; done) | omega | (simp; omega)) _) | (refine Below.trans ?_ (Below.mono (by assumption) (by first | (simp; done) | omega | (simp; omega)))))); done))⟩
end Go.Proofs.YtdpgkihecpjijaaDoor.T
