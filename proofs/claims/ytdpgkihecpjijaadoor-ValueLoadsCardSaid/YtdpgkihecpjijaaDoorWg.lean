import Derived.Deep.DeepCutAuto
import Derived.Laws.OwnMore
import Derived.OwnWalk
import Derived.Lib.AppendStr
import Derived.Laws.IdiomStrings
import Derived.Lib.ConvBytes
import Derived.Lib.SmallJoins
import Derived.IntWalk
import Derived.Deep.AppendLies
import Derived.Deep.RegionLaw
import Derived.Test.YtdpgkihecpjijaaDoorProg
import Derived.Test.YtdpgkihecpjijaaDoorMem
import Derived.Test.YtdpgkihecpjijaaDoorVw
import Derived.Test.YtdpgkihecpjijaaDoorVx
import Derived.Test.YtdpgkihecpjijaaDoorWc
import Derived.Test.YtdpgkihecpjijaaDoorWf
import Derived.WalkKit
import Derived.Outline
import Derived.WalkLawsBesides
import Derived.Deep.QuietTactic
import Derived.BigQuiet
import Derived.Lib.Hide
import Derived.Handy
import Derived.Deep.RegionHeld3
import Derived.Deep.DrawnRows
import Derived.KernelRfl
import Derived.Sort.Walk0
import Derived.Great.Walk
import Derived.Test.YtdpgkihecpjijaaDoorOwn
namespace Go.Proofs.YtdpgkihecpjijaaDoor.T
open Go Go.RowKit Mem Own
set_option maxRecDepth 100000
set_option maxHeartbeats 1000000
set_option linter.unusedVariables false
set_option linter.unusedSimpArgs false

theorem B_add (l m : List UInt8) : B l ++ B m = B (l ++ m) := by
  apply ByteArray.ext
  rw [ByteArray.data_append]
  apply Array.ext'
  simp [B]
/-- ref10.text -/
theorem rtxt_is (s : ByteArray) (w : World) (hs0 : s.size ≤ 2 ^ 40) : Calls Tryd.prog 53 #[.string s] w fun e w' => e = .returned (.string (B (txt s))) ∧ Below w.heap.size w w' := by
  have hT := Lib.hid (show B (two16 s.size) ++ s = B (txt s) by rw [← B_self s, B_add]; rfl)
  have hs : s.size ≤ maxLen := by unfold maxLen; omega
  have hz : (B (two16 s.size)).size = 2 := rfl
  have hlt : ¬ (9223372036854775807 < 2 + s.size) := by omega
  go_enter Tryd.func53, Tryd.ntmps53
  go_wp2_with (go_at_call 32; refine Calls.mono (rtwo_is s.size _ hs) ?_; rintro e w1 ⟨rfl, hb1⟩)
  go_ret
  exact ⟨by rw [← hT.out]; rfl, (by ((repeat (first | exact Below.refl _ _ | (refine Below.drew ?_) | (refine Go.below_drewN ?_ _) | (refine Below.alloc ?_ (by first | (simp; done) | omega | (simp; omega)) _) | (refine Below.setCell ?_ (by first | (simp; done) | omega | (simp; omega)) _) | (refine Below.trans ?_ (Below.mono (by assumption) (by first | (simp; done) | omega | (simp; omega)))))); done))⟩
/-- ref10.part -/
theorem rpart_is (n : Int) (w : World) (h1 : -1048576 ≤ n) (h2 : n ≤ 1048576) : Calls Tryd.prog 54 #[.int .i64 n] w fun e w' => e = .returned (.string (B (part4 n))) ∧ Below w.heap.size w w' := by
  obtain ⟨m, hm⟩ : ∃ m : Nat, (m : Int) = n % 4294967296 := ⟨(n % 4294967296).toNat, by omega⟩
  obtain ⟨p, hp⟩ : ∃ p : Nat, p = m / 65536 := ⟨_, rfl⟩
  obtain ⟨q, hq⟩ : ∃ q : Nat, q = m % 65536 := ⟨_, rfl⟩
  have e1 : (m : Int) / 65536 = (p : Int) := by omega
  have e2 : (m : Int) % 65536 = (q : Int) := by omega
  have hpl : p ≤ 65535 := by omega
  have hql : q ≤ 65535 := by omega
  have hml : m < 4294967296 := by omega
  have hT := Lib.hid (show B (two16 p) ++ B (two16 q) = B (part4 n) by
    rw [B_add]
    congr 1
    unfold two16 part4
    simp only [List.cons_append, List.nil_append, List.cons.injEq, and_true]
    refine ⟨?_, ?_, ?_, ?_⟩ <;> (apply UInt8.toNat_inj.1; rw [UInt8.toNat_ofNat', UInt8.toNat_ofNat']; omega))
  by_cases hn : n < 0
  · have hd : decide (n < 0) = true := by rw [decide_eq_true_iff]; exact hn
    have hs : n + 4294967296 = (m : Int) := by omega
    clear hp hq hn hm
    go_enter Tryd.func54, Tryd.ntmps54
    go_wp2_with (first | (go_at_call_of 32 (Value.int IntKind.i64 (p : Int)); refine Calls.mono (rtwo_is p _ (by unfold maxLen; omega)) ?_; rintro e w1 ⟨rfl, hb1⟩; have hz1 := hb1.size) | (go_at_call_of 32 (Value.int IntKind.i64 (q : Int)); refine Calls.mono (rtwo_is q _ (by unfold maxLen; omega)) ?_; rintro e w2 ⟨rfl, hb2⟩))
    go_ret
    exact ⟨by rw [← hT.out]; rfl, (by ((repeat (first | exact Below.refl _ _ | (refine Below.drew ?_) | (refine Go.below_drewN ?_ _) | (refine Below.alloc ?_ (by first | (simp; done) | omega | (simp; omega)) _) | (refine Below.setCell ?_ (by first | (simp; done) | omega | (simp; omega)) _) | (refine Below.trans ?_ (Below.mono (by assumption) (by first | (simp; done) | omega | (simp; omega)))))); done))⟩
  · have hd : decide (n < 0) = false := by rw [decide_eq_false_iff_not]; exact hn
    have hs : n = (m : Int) := by omega
    clear hp hq hn hm
    subst hs
    go_enter Tryd.func54, Tryd.ntmps54
    go_wp2_with (first | (go_at_call_of 32 (Value.int IntKind.i64 (p : Int)); refine Calls.mono (rtwo_is p _ (by unfold maxLen; omega)) ?_; rintro e w1 ⟨rfl, hb1⟩; have hz1 := hb1.size) | (go_at_call_of 32 (Value.int IntKind.i64 (q : Int)); refine Calls.mono (rtwo_is q _ (by unfold maxLen; omega)) ?_; rintro e w2 ⟨rfl, hb2⟩))
    go_ret
    exact ⟨by rw [← hT.out]; rfl, (by ((repeat (first | exact Below.refl _ _ | (refine Below.drew ?_) | (refine Go.below_drewN ?_ _) | (refine Below.alloc ?_ (by first | (simp; done) | omega | (simp; omega)) _) | (refine Below.setCell ?_ (by first | (simp; done) | omega | (simp; omega)) _) | (refine Below.trans ?_ (Below.mono (by assumption) (by first | (simp; done) | omega | (simp; omega)))))); done))⟩
end Go.Proofs.YtdpgkihecpjijaaDoor.T
