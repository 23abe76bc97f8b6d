import Derived.Test.YtgakeclocbfnpaaDoorProg
import Derived.Test.YtgakeclocbfnpaaDoorMem
import Derived.Test.YtgakeclocbfnpaaDoorTa
import Derived.Test.YtgakeclocbfnpaaDoorTa2
import Derived.Test.YtgakeclocbfnpaaDoorTb
import Derived.Test.YtgakeclocbfnpaaDoorTc
import Derived.WalkKit
import Derived.Outline
import Derived.WalkLawsBesides
import Derived.Deep.QuietTactic
import Derived.BigQuiet
import Derived.Lib.Hide
import Derived.Handy
import Derived.Deep.RegionHeld3
import Derived.Deep.DrawnRows
import Derived.KernelRfl
import Derived.Great.Walk
namespace Go.Proofs.YtgakeclocbfnpaaDoor.T
open Go Go.RowKit Mem
set_option maxRecDepth 100000
set_option maxHeartbeats 8000000
set_option linter.unusedVariables false
set_option linter.unusedSimpArgs false

theorem ret_find {s : ByteArray} {k : Nat} (h : fk s = k) (hk : k < 47) : Ending.returned (.tuple #[spV (sp k), .bool true]) = .returned (.tuple #[spV (fsp s), .bool (fis s)]) := by
  unfold fsp fis; rw [h, decide_eq_true hk]
theorem ret_nofind {s : ByteArray} (h : fk s = 47) : Ending.returned (.tuple #[spV sp0, .bool false]) = .returned (.tuple #[spV (fsp s), .bool (fis s)]) := by
  unfold fsp fis; rw [h]; rfl

/-- ref12.Find -/
theorem rfind_is (s : ByteArray) (w : World) (hs : s.size ≤ maxLen) :
    Calls Tryd.prog 13 #[.string s] w fun e w' => e = .returned (.tuple #[spV (fsp s), .bool (fis s)]) ∧ Below w.heap.size w w' := by
  go_enter Tryd.func13, Tryd.ntmps13
  go_wp2_with (go_at_call 10; refine (rall_is _).mono ?_; rintro e w1 ⟨rfl, rfl⟩)
  go_loop [5] (fun i => ∃ k : Nat, k ≤ 47 ∧ i = .int .i64 k ∧ ∀ j, j < k → up (sp j).name ≠ up s) (fun i => 47 - (intOf i).toNat)
  case atStart => exact ⟨0, Nat.zero_le _, rfl, fun j h => by omega⟩
  case round =>
    obtain ⟨k, hk, rfl, hno⟩ := hrel
    have HN := Lib.hid hno
    clear hno
    by_cases hlt : k < 47
    · obtain ⟨c0, c1, c2, c3, c4, c5, c6⟩ := cells_at hlt
      by_cases hu : up (sp k).name = up s
      · have HU := Lib.hid hu
        have HD := Lib.hid (decide_eq_true hu)
        clear hu
        go_wp2_with (go_at_call 23; refine (alike_is _ _ _ (names_max hlt) hs).mono ?_; rintro e w1 ⟨rfl, rfl⟩; rw [HD.out])
        exact bodyPost_ret (v := .tuple #[spV (sp k), .bool true]) (by simp [results, Tryd.results13, go_sem]) rfl ⟨ret_find (fk_at hlt HN.out HU.out) hlt, (by ((repeat (first | exact Below.refl _ _ | (refine Below.drew ?_) | (refine Go.below_drewN ?_ _) | (refine Below.alloc ?_ (by first | (simp; done) | omega | (simp; omega)) _) | (refine Below.setCell ?_ (by first | (simp; done) | omega | (simp; omega)) _) | (refine Below.trans ?_ (Below.mono (by assumption) (by first | (simp; done) | omega | (simp; omega)))))); done))⟩
      · have HU := Lib.hid hu
        have HD := Lib.hid (decide_eq_false hu)
        clear hu
        go_wp2_with (go_at_call 23; refine (alike_is _ _ _ (names_max hlt) hs).mono ?_; rintro e w1 ⟨rfl, rfl⟩; rw [HD.out])
        refine ⟨⟨k + 1, by omega, by go_num, fun j hj => ?_⟩, by simp [intOf]; omega⟩
        rcases Nat.lt_succ_iff_lt_or_eq.1 hj with h | h
        · exact HN.out j h
        · subst h; exact HU.out
    · have hf := Lib.hid (fk_none (s := s) fun j hj => HN.out j (by omega))
      go_wp2
      exact bodyPost_ret (v := .tuple #[spV sp0, .bool false]) (by simp [results, Tryd.results13, go_sem, sp0]) rfl ⟨ret_nofind hf.out, (by ((repeat (first | exact Below.refl _ _ | (refine Below.drew ?_) | (refine Go.below_drewN ?_ _) | (refine Below.alloc ?_ (by first | (simp; done) | omega | (simp; omega)) _) | (refine Below.setCell ?_ (by first | (simp; done) | omega | (simp; omega)) _) | (refine Below.trans ?_ (Below.mono (by assumption) (by first | (simp; done) | omega | (simp; omega)))))); done))⟩
end Go.Proofs.YtgakeclocbfnpaaDoor.T
