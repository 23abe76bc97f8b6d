import Derived.Deep.DeepCutAuto
import Derived.Laws.OwnMore
import Derived.OwnWalk
import Derived.Lib.AppendStr
import Derived.Laws.IdiomStrings
import Derived.Lib.ConvBytes
import Derived.Lib.SmallJoins
import Derived.IntWalk
import Derived.Deep.AppendLies
import Derived.Deep.RegionLaw
import Derived.Test.YtdpgkihecpjijaaDoorProg
import Derived.Test.YtdpgkihecpjijaaDoorMem
import Derived.Test.YtdpgkihecpjijaaDoorVw
import Derived.Test.YtdpgkihecpjijaaDoorVx
import Derived.Test.YtdpgkihecpjijaaDoorWc
import Derived.Test.YtdpgkihecpjijaaDoorWf
import Derived.WalkKit
import Derived.Outline
import Derived.WalkLawsBesides
import Derived.Deep.QuietTactic
import Derived.BigQuiet
import Derived.Lib.Hide
import Derived.Handy
import Derived.Deep.RegionHeld3
import Derived.Deep.DrawnRows
import Derived.KernelRfl
import Derived.Sort.Walk0
import Derived.Great.Walk
import Derived.Test.YtdpgkihecpjijaaDoorOwn
namespace Go.Proofs.YtdpgkihecpjijaaDoor.T
open Go Go.RowKit Mem Own
set_option maxRecDepth 100000
set_option maxHeartbeats 1000000
set_option linter.unusedVariables false
set_option linter.unusedSimpArgs false

/-- ref10.fits -/
theorem fits_is (A : Option Addr) (l : List ByteArray) (c : Nat) (w : World) (ha : Rd w A l) (hn : l.length ≤ maxLen) :
    Calls Tryd.prog 44 #[.slice A l.length c] w (BoolOut (itemsShort l ∧ cnt l.length) w) := by
  unfold maxLen at hn
  have HA := Lib.hid ha
  obtain ⟨N, hN⟩ : ∃ N, l.length = N := ⟨_, rfl⟩
  rw [hN] at hn ⊢
  have HN := Lib.hid hN
  clear ha hN
  go_enter Tryd.func44, Tryd.ntmps44
  go_wp2_with fail
  go_loopw [3] (fun x wr => ∃ j : Nat, j ≤ N ∧ x = .int .i64 j ∧ RowKit.Hid (Below w.heap.size w wr) ∧ RowKit.Hid (∀ i (h1 : i < l.length), i < j → l[i].size ≤ 1024)) (fun x _ => N - (intOf x).toNat)
  case atStart => exact ⟨0, Nat.zero_le _, rfl, Lib.hid (Below.refl _ _), Lib.hid fun i _ h => by omega⟩
  case round =>
    obtain ⟨j, hj, rfl, HBW, HS⟩ := hrel
    by_cases hlt : j < N
    · have hlta := Lib.hid (show j < l.length by rw [HN.out]; exact hlt)
      obtain ⟨q1, o1, rfl⟩ := HA.out.addr (Nat.zero_lt_of_lt hlta.out)
      have g1 := cell_below HBW.out (HA.out.cell hlta.out)
      obtain ⟨x, hx⟩ : ∃ x, x = l[j]'hlta.out := ⟨_, rfl⟩
      rw [← hx] at g1
      have HX := Lib.hid hx
      clear hx
      by_cases hs : x.size ≤ 1024
      · have hd : decide ((1024 : Int) < (x.size : Int)) = false := by rw [decide_eq_false_iff_not]; omega
        have HSZ := Lib.hid hs
        clear hs
        go_wp2
        refine ⟨⟨j + 1, by omega, by go_num, Lib.hid HBW.out, Lib.hid fun i h1 hj => ?_⟩, by simp [intOf]; omega⟩
        rcases Nat.lt_succ_iff_lt_or_eq.1 hj with h | h
        · exact HS.out i h1 h
        · subst h; rw [← HX.out]; exact HSZ.out
      · have hd : decide ((1024 : Int) < (x.size : Int)) = true := by rw [decide_eq_true_iff]; omega
        have HSZ := Lib.hid hs
        clear hs
        go_wp2
        go_ret
        exact ⟨false, rfl, no_iff fun h => HSZ.out (by rw [HX.out]; exact h.1 _ (List.getElem_mem _)), HBW.out⟩
    · have HI := Lib.hid (show itemsShort l from fun x hx => by
        obtain ⟨i, hi, rfl⟩ := List.getElem_of_mem hx
        exact HS.out i hi (by have := HN.out; omega))
      by_cases h1 : 1 ≤ N
      · have m1 : decide ((1 : Int) ≤ (N : Int)) = true := by rw [decide_eq_true_iff]; omega
        by_cases h2 : N ≤ 256
        · have m2 : decide ((N : Int) ≤ 256) = true := by rw [decide_eq_true_iff]; omega
          have HC := Lib.hid (show cnt N from ⟨h1, h2⟩)
          clear h1 h2
          go_wp2
          go_ret
          exact ⟨true, rfl, ⟨fun _ => ⟨HI.out, HC.out⟩, fun _ => rfl⟩, HBW.out⟩
        · have m2 : decide ((N : Int) ≤ 256) = false := by rw [decide_eq_false_iff_not]; omega
          have HC := Lib.hid (show ¬ cnt N from fun h => h2 h.2)
          clear h1 h2
          go_wp2
          go_ret
          exact ⟨false, rfl, no_iff fun h => HC.out h.2, HBW.out⟩
      · have m1 : decide ((1 : Int) ≤ (N : Int)) = false := by rw [decide_eq_false_iff_not]; omega
        have HC := Lib.hid (show ¬ cnt N from fun h => h1 h.1)
        clear h1
        go_wp2
        go_ret
        exact ⟨false, rfl, no_iff fun h => HC.out h.2, HBW.out⟩
end Go.Proofs.YtdpgkihecpjijaaDoor.T
