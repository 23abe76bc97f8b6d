import Derived.Deep.DeepCutAuto
import Derived.Laws.OwnMore
import Derived.OwnWalk
import Derived.Lib.AppendStr
import Derived.Lib.SliceRun
import Derived.Lib.SmallJoins
import Derived.IntWalk
import Derived.Lib.ItoaLen
import Derived.Test.YtdfijefgklhmdaaDoorProg
import Derived.Test.YtdfijefgklhmdaaDoorShelf
import Derived.Test.YtdfijefgklhmdaaDoorMem
import Derived.Test.YtdfijefgklhmdaaDoorR1
import Derived.Test.YtdfijefgklhmdaaDoorRa
import Derived.Test.YtdfijefgklhmdaaDoorRb
import Derived.Test.YtdfijefgklhmdaaDoorRc
import Derived.WalkKit
import Derived.Outline
import Derived.WalkLawsBesides
import Derived.Deep.QuietTactic
import Derived.BigQuiet
import Derived.Lib.Hide
import Derived.Handy
import Derived.Deep.RegionHeld3
import Derived.Deep.DrawnRows
import Derived.KernelRfl
import Derived.Great.Walk
import Derived.Test.YtdfijefgklhmdaaDoorOwn
namespace Go.Proofs.YtdfijefgklhmdaaDoor.T
open Go Go.RowKit Go.Sort Mem Own
set_option maxRecDepth 100000
set_option maxHeartbeats 1000000
set_option linter.unusedVariables false
set_option linter.unusedSimpArgs false

theorem eq_of_same {α : Type} {la lb : List α} (hl : la.length = lb.length) (h : ∀ j (h1 : j < la.length) (h2 : j < lb.length), la[j] = lb[j]) : la = lb := List.ext_getElem hl h
/-- ref06.Same -/
theorem refs_is (A B : Option Addr) (la lb : List ByteArray) (ca cb : Nat) (w : World) (ha : Rd w A la) (hb : Rd w B lb) (hn : la.length ≤ maxLen) :
    Calls Tryd.prog 14 #[.slice A la.length ca, .slice B lb.length cb] w fun e w' => e = .returned (.bool (decide (la = lb))) ∧ Below w.heap.size w w' := by
  unfold maxLen at hn
  go_enter Tryd.func14, Tryd.ntmps14
  have HA := Lib.hid ha; have HB := Lib.hid hb
  clear ha hb
  by_cases hl : la.length = lb.length
  · obtain ⟨N, hN⟩ : ∃ N, N = la.length := ⟨_, rfl⟩
    rw [← hl, ← hN]
    have hNa : la.length = N := hN.symm
    have hNb : lb.length = N := by omega
    have HNa := Lib.hid hNa; have HNb := Lib.hid hNb
    rw [← hN] at hn
    clear hN hNa hNb hl
    go_wp2_with fail
    go_loopw [5] (fun x wr => ∃ k : Nat, k ≤ N ∧ x = .int .i64 k ∧ RowKit.Hid (Below w.heap.size w wr) ∧ RowKit.Hid (∀ j (h1 : j < la.length) (h2 : j < lb.length), j < k → la[j] = lb[j])) (fun x _ => N - (intOf x).toNat)
    case atStart => exact ⟨0, Nat.zero_le _, rfl, Lib.hid (Below.refl _ _), Lib.hid fun j _ _ h => by omega⟩
    case round =>
      obtain ⟨k, hk, rfl, HBW, HS⟩ := hrel
      by_cases hlt : k < N
      · have hlta := Lib.hid (show k < la.length by rw [HNa.out]; exact hlt)
        have hltb := Lib.hid (show k < lb.length by rw [HNb.out]; exact hlt)
        obtain ⟨b1, o1, rfl⟩ := HA.out.addr (Nat.zero_lt_of_lt hlta.out)
        obtain ⟨b2, o2, rfl⟩ := HB.out.addr (Nat.zero_lt_of_lt hltb.out)
        have g1 := cell_below HBW.out (HA.out.cell hlta.out)
        have g2 := cell_below HBW.out (HB.out.cell hltb.out)
        obtain ⟨x, hx⟩ : ∃ x, x = la[k]'hlta.out := ⟨_, rfl⟩
        obtain ⟨y, hy⟩ : ∃ y, y = lb[k]'hltb.out := ⟨_, rfl⟩
        rw [← hx] at g1
        rw [← hy] at g2
        have HX := Lib.hid hx; have HY := Lib.hid hy
        clear hx hy
        by_cases hxy : x = y
        · have e1 : (!x.toList == y.toList) = false := by simp [hxy]
          have HE := Lib.hid hxy
          clear hxy
          go_wp2
          go_quiet (fail)
          go_wp2
          refine ⟨⟨k + 1, by omega, by go_num, Lib.hid (Go.below_drewN HBW.out _), Lib.hid fun j h1 h2 hj => ?_⟩, by simp [intOf]; omega⟩
          rcases Nat.lt_succ_iff_lt_or_eq.1 hj with h | h
          · exact HS.out j h1 h2 h
          · subst h; rw [← HX.out, ← HY.out]; exact HE.out
        · have e1 : (!x.toList == y.toList) = true := by simp; exact fun h => hxy (ba_inj h)
          have HE := Lib.hid hxy
          clear hxy
          go_wp2
          go_quiet (fail)
          go_wp2
          go_ret
          refine ⟨ret_bool (Eq.symm (decide_eq_false fun e => HE.out ?_)), Go.below_drewN HBW.out _⟩
          rw [HX.out, HY.out]; simp [e]
      · have e : la = lb := eq_of_same (by rw [HNa.out, HNb.out]) fun j h1 h2 => HS.out j h1 h2 (by have := HNa.out; omega)
        go_wp2
        go_ret
        exact ⟨ret_bool (decide_eq_true e).symm, HBW.out⟩
  · have hl2 : ((la.length : Int) != (lb.length : Int)) = true := by simp; omega
    have HL := Lib.hid hl
    clear hl
    go_wp2
    go_ret
    exact ⟨ret_bool (decide_eq_false fun e => HL.out (by rw [e])).symm, Below.refl _ _⟩
end Go.Proofs.YtdfijefgklhmdaaDoor.T
