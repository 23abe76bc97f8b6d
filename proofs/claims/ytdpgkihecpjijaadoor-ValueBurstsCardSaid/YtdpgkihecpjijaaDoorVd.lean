import Derived.Test.YtdpgkihecpjijaaDoorProg
import Derived.Test.YtdpgkihecpjijaaDoorMem
import Derived.Test.YtdpgkihecpjijaaDoorVa
import Derived.Test.YtdpgkihecpjijaaDoorVb
import Derived.Test.YtdpgkihecpjijaaDoorVc
import Derived.WalkKit
import Derived.Outline
import Derived.WalkLawsBesides
import Derived.Deep.QuietTactic
import Derived.BigQuiet
import Derived.Lib.Hide
import Derived.Handy
import Derived.Deep.RegionHeld3
import Derived.Deep.DrawnRows
import Derived.KernelRfl
import Derived.Sort.Walk0
import Derived.Great.Walk
import Derived.Test.YtdpgkihecpjijaaDoorOwn
namespace Go.Proofs.YtdpgkihecpjijaaDoor.T
open Go Go.RowKit Mem Own
set_option maxRecDepth 100000
set_option maxHeartbeats 1000000
set_option linter.unusedVariables false
set_option linter.unusedSimpArgs false

/-- The five kinds, or none. -/
theorem kinds (k : Int) : k = 1 ∨ k = 2 ∨ k = 3 ∨ k = 4 ∨ k = 5 ∨ ((k == 1) = false ∧ (k == 2) = false ∧ (k == 3) = false ∧ (k == 4) = false ∧ (k == 5) = false) := by
  by_cases h1 : k = 1
  · exact .inl h1
  by_cases h2 : k = 2
  · exact .inr (.inl h2)
  by_cases h3 : k = 3
  · exact .inr (.inr (.inl h3))
  by_cases h4 : k = 4
  · exact .inr (.inr (.inr (.inl h4)))
  by_cases h5 : k = 5
  · exact .inr (.inr (.inr (.inr (.inl h5))))
  · right; right; right; right; right; simp [*]
def typ (k : Int) : ByteArray :=
  if k = 1 then ⟨#[115, 116, 114, 105, 110, 103]⟩ else if k = 2 then ⟨#[104, 97, 115, 104]⟩ else if k = 3 then ⟨#[108, 105, 115, 116]⟩ else if k = 4 then ⟨#[115, 101, 116]⟩ else if k = 5 then ⟨#[112, 111, 105, 110, 116]⟩ else ⟨#[110, 111, 110, 101]⟩
theorem typ_other {k : Int} (h : (k == 1) = false ∧ (k == 2) = false ∧ (k == 3) = false ∧ (k == 4) = false ∧ (k == 5) = false) : typ k = ⟨#[110, 111, 110, 101]⟩ := by
  simp at h; simp [typ, h]
/-- value.Type -/
theorem type_is (k : Int) (t : ByteArray) (PA : Option Addr) (pn pc : Nat) (IA : Option Addr) (n ic : Nat) (re im : Int) (w : World) :
    Calls Tryd.prog 22 #[vV k t PA pn pc IA n ic re im] w fun e w' => e = .returned (.string (typ k)) ∧ Below w.heap.size w w' := by
  rcases kinds k with rfl | rfl | rfl | rfl | rfl | h
  rotate_right
  · have HT := Lib.hid (typ_other h)
    obtain ⟨k1, k2, k3, k4, k5⟩ := h
    go_enter Tryd.func22, Tryd.ntmps22
    go_wp2
    go_ret
    exact ⟨ret_str HT.out.symm, (by ((repeat (first | exact Below.refl _ _ | (refine Below.drew ?_) | (refine Go.below_drewN ?_ _) | (refine Below.alloc ?_ (by first | (simp; done) | omega | (simp; omega)) _) | (refine Below.setCell ?_ (by first | (simp; done) | omega | (simp; omega)) _) | (refine Below.trans ?_ (Below.mono (by assumption) (by first | (simp; done) | omega | (simp; omega)))))); done))⟩
  all_goals
    go_enter Tryd.func22, Tryd.ntmps22
    go_wp2
    go_ret
    exact ⟨rfl, (by ((repeat (first | exact Below.refl _ _ | (refine Below.drew ?_) | (refine Go.below_drewN ?_ _) | (refine Below.alloc ?_ (by first | (simp; done) | omega | (simp; omega)) _) | (refine Below.setCell ?_ (by first | (simp; done) | omega | (simp; omega)) _) | (refine Below.trans ?_ (Below.mono (by assumption) (by first | (simp; done) | omega | (simp; omega)))))); done))⟩
theorem short_is (s : ByteArray) (w : World) (hs : s.size ≤ maxLen) : Calls Tryd.prog 37 #[.string s] w fun e w' => e = .returned (.bool (decide (s.size ≤ 1024))) ∧ w = w' := by
  unfold maxLen at hs
  go_enter Tryd.func37, Tryd.ntmps37
  go_wp2
  go_ret
  exact ⟨ret_bool (by rw [Bool.eq_iff_iff]; simp; try omega), rfl⟩
theorem many_is (n : Nat) (w : World) : Calls Tryd.prog 38 #[.int .i64 (n : Int)] w fun e w' => e = .returned (.bool (decide (1 ≤ n ∧ n ≤ 256))) ∧ w = w' := by
  by_cases h1 : 1 ≤ n
  · by_cases h2 : n ≤ 256
    · go_enter Tryd.func38, Tryd.ntmps38
      go_wp2
      go_ret
      exact ⟨ret_bool (by rw [Bool.eq_iff_iff]; simp; try omega), rfl⟩
    · go_enter Tryd.func38, Tryd.ntmps38
      go_wp2
      go_ret
      exact ⟨ret_bool (by rw [Bool.eq_iff_iff]; simp; try omega), rfl⟩
  · go_enter Tryd.func38, Tryd.ntmps38
    go_wp2
    go_ret
    exact ⟨ret_bool (by first | (simp; done) | (simp; omega)), rfl⟩
/-- value.Right$1 -/
theorem long_is (s : ByteArray) (w : World) (hs : s.size ≤ maxLen) : Calls Tryd.prog 41 #[.string s] w fun e w' => e = .returned (.bool (!decide (s.size ≤ 1024))) ∧ w = w' := by
  go_enter Tryd.func41, Tryd.ntmps41
  go_wp2_with (go_at_call 37; refine (short_is s _ hs).mono ?_; rintro e w1 ⟨rfl, rfl⟩)
  go_ret
  exact ⟨rfl, rfl⟩
/-- point.part, point.Right -/
theorem ppart_is (n : Int) (w : World) : Calls Tryd.prog 63 #[.int .i64 n] w fun e w' => e = .returned (.bool (decide (-1048576 ≤ n ∧ n ≤ 1048576))) ∧ w = w' := by
  by_cases h1 : -1048576 ≤ n
  · by_cases h2 : n ≤ 1048576
    · go_enter Tryd.func63, Tryd.ntmps63
      go_wp2
      go_ret
      exact ⟨ret_bool (by rw [Bool.eq_iff_iff]; simp; try omega), rfl⟩
    · go_enter Tryd.func63, Tryd.ntmps63
      go_wp2
      go_ret
      exact ⟨ret_bool (by rw [Bool.eq_iff_iff]; simp; try omega), rfl⟩
  · go_enter Tryd.func63, Tryd.ntmps63
    go_wp2
    go_ret
    exact ⟨ret_bool (by rw [Bool.eq_iff_iff]; simp; try omega), rfl⟩
def ptOk (re im : Int) : Prop := (-1048576 ≤ re ∧ re ≤ 1048576) ∧ (-1048576 ≤ im ∧ im ≤ 1048576)
instance (re im : Int) : Decidable (ptOk re im) := by unfold ptOk; exact inferInstance
theorem pright_is (re im : Int) (w : World) : Calls Tryd.prog 42 #[.agg #[.int .i64 re, .int .i64 im]] w fun e w' => e = .returned (.bool (decide (ptOk re im))) ∧ Below w.heap.size w w' := by
  by_cases h1 : (-1048576 ≤ re ∧ re ≤ 1048576)
  · have D1 := Lib.hid (decide_eq_true h1)
    have HE := Lib.hid (show decide (ptOk re im) = decide (-1048576 ≤ im ∧ im ≤ 1048576) by rw [Bool.eq_iff_iff, decide_eq_true_iff, decide_eq_true_iff]; unfold ptOk; simp [h1])
    have H1 := Lib.hid h1
    clear h1
    obtain ⟨r, hr⟩ : ∃ r, r = decide (-1048576 ≤ im ∧ im ≤ 1048576) := ⟨_, rfl⟩
    have HR := Lib.hid hr
    clear hr
    go_enter Tryd.func42, Tryd.ntmps42
    go_wp2_with (first
      | (go_at_call_of 63 (Value.int IntKind.i64 re); (with_reducible refine (ppart_is re _).mono ?_); rintro e w1 ⟨rfl, rfl⟩; rw [D1.out])
      | (go_at_call_of 63 (Value.int IntKind.i64 im); (with_reducible refine (ppart_is im _).mono ?_); rintro e w1 ⟨rfl, rfl⟩; rw [← HR.out]))
    all_goals
      go_ret
      exact ⟨ret_bool (by rw [HE.out, ← HR.out]), (by ((repeat (first | exact Below.refl _ _ | (refine Below.drew ?_) | (refine Go.below_drewN ?_ _) | (refine Below.alloc ?_ (by first | (simp; done) | omega | (simp; omega)) _) | (refine Below.setCell ?_ (by first | (simp; done) | omega | (simp; omega)) _) | (refine Below.trans ?_ (Below.mono (by assumption) (by first | (simp; done) | omega | (simp; omega)))))); done))⟩
  · have D1 := Lib.hid (decide_eq_false h1)
    have HE := Lib.hid (show decide (ptOk re im) = false from decide_eq_false fun h => h1 h.1)
    clear h1
    go_enter Tryd.func42, Tryd.ntmps42
    go_wp2_with (go_at_call 63; refine (ppart_is re _).mono ?_; rintro e w1 ⟨rfl, rfl⟩; rw [D1.out])
    go_ret
    exact ⟨ret_bool HE.out.symm, (by ((repeat (first | exact Below.refl _ _ | (refine Below.drew ?_) | (refine Go.below_drewN ?_ _) | (refine Below.alloc ?_ (by first | (simp; done) | omega | (simp; omega)) _) | (refine Below.setCell ?_ (by first | (simp; done) | omega | (simp; omega)) _) | (refine Below.trans ?_ (Below.mono (by assumption) (by first | (simp; done) | omega | (simp; omega)))))); done))⟩
/-- ref09.Right -/
theorem rpright_is (re im : Int) (w : World) : Calls Tryd.prog 47 #[.agg #[.int .i64 re, .int .i64 im]] w fun e w' => e = .returned (.bool (decide (ptOk re im))) ∧ Below w.heap.size w w' := by
  have hu := Tryd.underlying25
  have HE : RowKit.Hid (∀ b : Bool, (b = true ↔ ptOk re im) → b = decide (ptOk re im)) := Lib.hid fun b h => by rw [Bool.eq_iff_iff, decide_eq_true_iff]; exact h
  by_cases h1 : -1048576 ≤ re <;> by_cases h2 : re ≤ 1048576 <;> by_cases h3 : -1048576 ≤ im <;> by_cases h4 : im ≤ 1048576
  all_goals first
    | (exfalso; omega)
    | (go_enter Tryd.func47, Tryd.ntmps47
       go_wp2
       go_ret
       exact ⟨ret_bool (HE.out _ (by unfold ptOk; simp; try omega)), (by ((repeat (first | exact Below.refl _ _ | (refine Below.drew ?_) | (refine Go.below_drewN ?_ _) | (refine Below.alloc ?_ (by first | (simp; done) | omega | (simp; omega)) _) | (refine Below.setCell ?_ (by first | (simp; done) | omega | (simp; omega)) _) | (refine Below.trans ?_ (Below.mono (by assumption) (by first | (simp; done) | omega | (simp; omega)))))); done))⟩)
end Go.Proofs.YtdpgkihecpjijaaDoor.T
