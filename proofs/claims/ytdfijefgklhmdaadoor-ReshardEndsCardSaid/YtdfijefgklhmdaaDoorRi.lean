import Derived.Deep.DeepCutAuto
import Derived.Laws.OwnMore
import Derived.OwnWalk
import Derived.Lib.AppendStr
import Derived.Lib.SliceRun
import Derived.Lib.SmallJoins
import Derived.IntWalk
import Derived.Lib.ItoaLen
import Derived.Test.YtdfijefgklhmdaaDoorProg
import Derived.Test.YtdfijefgklhmdaaDoorShelf
import Derived.Test.YtdfijefgklhmdaaDoorMem
import Derived.Test.YtdfijefgklhmdaaDoorR1
import Derived.Test.YtdfijefgklhmdaaDoorRa
import Derived.Test.YtdfijefgklhmdaaDoorRb
import Derived.Test.YtdfijefgklhmdaaDoorRc
import Derived.Test.YtdfijefgklhmdaaDoorRe
import Derived.Test.YtdfijefgklhmdaaDoorRf
import Derived.Test.YtdfijefgklhmdaaDoorRg
import Derived.Test.YtdfijefgklhmdaaDoorRh
import Derived.WalkKit
import Derived.Outline
import Derived.WalkLawsBesides
import Derived.Deep.QuietTactic
import Derived.BigQuiet
import Derived.Lib.Hide
import Derived.Handy
import Derived.Deep.RegionHeld3
import Derived.Deep.DrawnRows
import Derived.KernelRfl
import Derived.Great.Walk
import Derived.Test.YtdfijefgklhmdaaDoorOwn
namespace Go.Proofs.YtdfijefgklhmdaaDoor.T
open Go Go.RowKit Go.Sort Mem Own
set_option maxRecDepth 100000
set_option maxHeartbeats 1000000
set_option linter.unusedVariables false
set_option linter.unusedSimpArgs false

theorem new_no {A : Option Addr} {l : List Mv} {c : Nat} {B T E : Int} {w : World} (ha : RdM w A l) (hc : l.length ≤ c) (hcm : c ≤ maxLen) (hE : newErr l B T = E) (h0 : E ≠ 0) : Calls Tryd.prog 9 #[.slice A l.length c, .int .i64 B, .int .i64 T] w fun e w' => e = .returned (.tuple #[.pointer none, .int .i64 E]) ∧ Below w.heap.size w w' := by
  subst hE
  refine (new_is A l c B T w ha hc hcm).mono ?_
  rintro e w' (⟨_, h, hb⟩ | ⟨h, _⟩)
  · exact ⟨h, hb⟩
  · exact absurd h h0
theorem new_yes {A : Option Addr} {l : List Mv} {c : Nat} {B T : Int} {w : World} (ha : RdM w A l) (hc : l.length ≤ c) (hcm : c ≤ maxLen) (hE : newErr l B T = 0) : Calls Tryd.prog 9 #[.slice A l.length c, .int .i64 B, .int .i64 T] w fun e w' => ∃ (g : Nat) (C : Option Addr) (k : Nat), e = .returned (.tuple #[.pointer (some ⟨g, 0, none⟩), .int .i64 0]) ∧ w.heap.size ≤ g ∧ RowKit.Hid (DrRd w' g C k none 0 (newD l B T)) ∧ Below w.heap.size w w' := by
  refine (new_is A l c B T w ha hc hcm).mono ?_
  rintro e w' (⟨h, _⟩ | ⟨_, g, C, k, h1, h2, h3, h4, h5⟩)
  · exact absurd hE h
  · exact ⟨g, C, k, h1, h2, Lib.hid (newD_rd h3.out h4.out), h5⟩
theorem rnew_no {A : Option Addr} {l : List Mv} {c : Nat} {B T E : Int} {w : World} (ha : RdM w A l) (hcm : l.length ≤ maxLen) (hE : newErr l B T = E) (h0 : E ≠ 0) : Calls Tryd.prog 10 #[.slice A l.length c, .int .i64 B, .int .i64 T] w fun e w' => e = .returned (.tuple #[Value.agg #[.slice none 0 0, .int .i64 0, .int .i64 0, .int .i64 0, .slice none 0 0, .int .i64 0, .bool false], .int .i64 E]) ∧ Below w.heap.size w w' := by
  subst hE
  refine (rnew_is A l c B T w ha hcm).mono ?_
  rintro e w' ⟨⟨_, h⟩ | ⟨h, _⟩, hb⟩
  · exact ⟨h, hb⟩
  · exact absurd h h0
theorem rnew_yes {A : Option Addr} {l : List Mv} {c : Nat} {B T : Int} {w : World} (ha : RdM w A l) (hcm : l.length ≤ maxLen) (hE : newErr l B T = 0) : Calls Tryd.prog 10 #[.slice A l.length c, .int .i64 B, .int .i64 T] w fun e w' => e = .returned (.tuple #[Value.agg #[.slice A l.length c, .int .i64 B, .int .i64 T, .int .i64 1, .slice none 0 0, .int .i64 0, .bool false], .int .i64 0]) ∧ Below w.heap.size w w' := by
  refine (rnew_is A l c B T w ha hcm).mono ?_
  rintro e w' ⟨⟨h, _⟩ | ⟨_, h⟩, hb⟩
  · exact absurd hE h
  · exact ⟨h, hb⟩
/-- A plan among the arguments. -/
abbrev plV (A : Option Addr) (n c : Nat) (B T : Int) : Value := .agg #[.slice A n c, .int .i64 B, .int .i64 T]
/-- ReshardPlans -/
theorem plans_is (A : Option Addr) (l : List Mv) (c : Nat) (B T : Int) (w : World) (ha : RdM w A l) (hc : l.length ≤ c) (hcm : c ≤ maxLen) (hT : Tab w) : Calls Tryd.prog 3 #[plV A l.length c B T] w fun e w' => e = .returned (.bool true) ∧ Below w.heap.size w w' := by
  have HA := Lib.hid ha; have HT := Lib.hid hT; have HC := Lib.hid hc; have HCM := Lib.hid hcm
  have hlm := Nat.le_trans hc hcm
  have HLM := Lib.hid hlm
  have HX0 := Lib.hid (heap_alloc_new w (.cells #[.slice A l.length c, .int .i64 B, .int .i64 T] 24))
  clear ha hT hc hcm hlm
  by_cases hlong : 1100 < l.length
  · go_enter Tryd.func3, Tryd.ntmps3
    go_wp2_with (go_at_call 8; refine Calls.mono (alive_is _ (HT.out.keep ?_)) ?_; (focus ((repeat (first | exact Below.refl _ _ | (refine Below.drew ?_) | (refine Go.below_drewN ?_ _) | (refine Below.alloc ?_ (by first | (simp; done) | omega | (simp; omega)) _) | (refine Below.setCell ?_ (by first | (simp; done) | omega | (simp; omega)) _) | (refine Below.trans ?_ (Below.mono (by assumption) (by first | (simp; done) | omega | (simp; omega)))))); done)); rintro e w1 ⟨rfl, hb1⟩)
    go_ret
    exact ⟨rfl, (by ((repeat (first | exact Below.refl _ _ | (refine Below.drew ?_) | (refine Go.below_drewN ?_ _) | (refine Below.alloc ?_ (by first | (simp; done) | omega | (simp; omega)) _) | (refine Below.setCell ?_ (by first | (simp; done) | omega | (simp; omega)) _) | (refine Below.trans ?_ (Below.mono (by assumption) (by first | (simp; done) | omega | (simp; omega)))))); done))⟩
  · have hshort : l.length ≤ 1100 := by omega
    obtain ⟨E, hE⟩ : ∃ E, newErr l B T = E := ⟨_, rfl⟩
    have HE := Lib.hid hE
    clear hE hlong
    by_cases h0 : E = 0
    · subst h0
      go_enter Tryd.func3, Tryd.ntmps3
      go_wp2_with (first
        | (go_at_call 9; refine Calls.mono (new_yes (HA.out.below ?_) HC.out HCM.out HE.out) ?_; (focus ((repeat (first | exact Below.refl _ _ | (refine Below.drew ?_) | (refine Go.below_drewN ?_ _) | (refine Below.alloc ?_ (by first | (simp; done) | omega | (simp; omega)) _) | (refine Below.setCell ?_ (by first | (simp; done) | omega | (simp; omega)) _) | (refine Below.trans ?_ (Below.mono (by assumption) (by first | (simp; done) | omega | (simp; omega)))))); done)); rintro e w1 ⟨g, C, k, rfl, hg, HD, hb1⟩; have hz1 := hb1.size; (try simp at hz1); have HX1 := Lib.hid (keep_block hb1 HX0.out); obtain ⟨x0, x1, x2⟩ := facts3 HX1.out)
        | (go_at_call 10; refine Calls.mono (rnew_yes (HA.out.below ?_) HLM.out HE.out) ?_; (focus ((repeat (first | exact Below.refl _ _ | (refine Below.drew ?_) | (refine Go.below_drewN ?_ _) | (refine Below.alloc ?_ (by first | (simp; done) | omega | (simp; omega)) _) | (refine Below.setCell ?_ (by first | (simp; done) | omega | (simp; omega)) _) | (refine Below.trans ?_ (Below.mono (by assumption) (by first | (simp; done) | omega | (simp; omega)))))); done)); rintro e w2 ⟨rfl, hb2⟩; have hz2 := hb2.size)
        | (go_at_call 8; refine Calls.mono (alive_is _ (HT.out.keep ?_)) ?_; (focus ((repeat (first | exact Below.refl _ _ | (refine Below.drew ?_) | (refine Go.below_drewN ?_ _) | (refine Below.alloc ?_ (by first | (simp; done) | omega | (simp; omega)) _) | (refine Below.setCell ?_ (by first | (simp; done) | omega | (simp; omega)) _) | (refine Below.trans ?_ (Below.mono (by assumption) (by first | (simp; done) | omega | (simp; omega)))))); done)); rintro e w3 ⟨rfl, hb3⟩))
      go_ret
      exact ⟨rfl, (by ((repeat (first | exact Below.refl _ _ | (refine Below.drew ?_) | (refine Go.below_drewN ?_ _) | (refine Below.alloc ?_ (by first | (simp; done) | omega | (simp; omega)) _) | (refine Below.setCell ?_ (by first | (simp; done) | omega | (simp; omega)) _) | (refine Below.trans ?_ (Below.mono (by assumption) (by first | (simp; done) | omega | (simp; omega)))))); done))⟩
    · go_enter Tryd.func3, Tryd.ntmps3
      go_wp2_with (first
        | (go_at_call 9; refine Calls.mono (new_no (HA.out.below ?_) HC.out HCM.out HE.out h0) ?_; (focus ((repeat (first | exact Below.refl _ _ | (refine Below.drew ?_) | (refine Go.below_drewN ?_ _) | (refine Below.alloc ?_ (by first | (simp; done) | omega | (simp; omega)) _) | (refine Below.setCell ?_ (by first | (simp; done) | omega | (simp; omega)) _) | (refine Below.trans ?_ (Below.mono (by assumption) (by first | (simp; done) | omega | (simp; omega)))))); done)); rintro e w1 ⟨rfl, hb1⟩; have hz1 := hb1.size; (try simp at hz1); have HX1 := Lib.hid (keep_block hb1 HX0.out); obtain ⟨x0, x1, x2⟩ := facts3 HX1.out)
        | (go_at_call 10; refine Calls.mono (rnew_no (HA.out.below ?_) HLM.out HE.out h0) ?_; (focus ((repeat (first | exact Below.refl _ _ | (refine Below.drew ?_) | (refine Go.below_drewN ?_ _) | (refine Below.alloc ?_ (by first | (simp; done) | omega | (simp; omega)) _) | (refine Below.setCell ?_ (by first | (simp; done) | omega | (simp; omega)) _) | (refine Below.trans ?_ (Below.mono (by assumption) (by first | (simp; done) | omega | (simp; omega)))))); done)); rintro e w2 ⟨rfl, hb2⟩; have hz2 := hb2.size)
        | (go_at_call 8; refine Calls.mono (alive_is _ (HT.out.keep ?_)) ?_; (focus ((repeat (first | exact Below.refl _ _ | (refine Below.drew ?_) | (refine Go.below_drewN ?_ _) | (refine Below.alloc ?_ (by first | (simp; done) | omega | (simp; omega)) _) | (refine Below.setCell ?_ (by first | (simp; done) | omega | (simp; omega)) _) | (refine Below.trans ?_ (Below.mono (by assumption) (by first | (simp; done) | omega | (simp; omega)))))); done)); rintro e w3 ⟨rfl, hb3⟩))
      go_ret
      exact ⟨rfl, (by ((repeat (first | exact Below.refl _ _ | (refine Below.drew ?_) | (refine Go.below_drewN ?_ _) | (refine Below.alloc ?_ (by first | (simp; done) | omega | (simp; omega)) _) | (refine Below.setCell ?_ (by first | (simp; done) | omega | (simp; omega)) _) | (refine Below.trans ?_ (Below.mono (by assumption) (by first | (simp; done) | omega | (simp; omega)))))); done))⟩
end Go.Proofs.YtdfijefgklhmdaaDoor.T
