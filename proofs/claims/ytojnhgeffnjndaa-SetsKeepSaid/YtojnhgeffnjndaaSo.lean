import Derived.Test.YtojnhgeffnjndaaProg
import Derived.Test.YtojnhgeffnjndaaShelf
import Derived.Test.YtojnhgeffnjndaaSn
import Derived.WalkKit
import Derived.Outline
import Derived.WalkLawsBesides
import Derived.Deep.QuietTactic
import Derived.BigQuiet
import Derived.Lib.Hide
import Derived.Handy
import Derived.Deep.RegionHeld3
import Derived.Deep.DrawnRows
import Derived.Shelf.Spec.SlicesInsertGrow
import Derived.Sort.OwnSorted
import Derived.Laws.AppendOwnNone
namespace Go.Proofs.Ytojnhgeffnjndaa.T
open Go Go.RowKit Mem Go.Great Go.Sort Go.Lib
set_option maxRecDepth 100000
set_option maxHeartbeats 8000000
set_option linter.unusedVariables false
set_option linter.unusedSimpArgs false


theorem bsGo_le (less : Nat → Bool) : ∀ f lo hi, lo ≤ hi → Lib.bsGo less f lo hi ≤ hi
  | 0, lo, hi, h => by rw [Lib.bsGo]; exact h
  | f + 1, lo, hi, h => by
    rw [Lib.bsGo]
    split
    · split
      · exact bsGo_le less f _ _ (by omega)
      · exact Nat.le_trans (bsGo_le less f _ _ (by omega)) (by omega)
    · exact h

/-- slices.BinarySearch in any list -/
theorem search_any (A : Option Addr) (l : List ByteArray) (c : Nat) (s : ByteArray) (w : World) (ha : Rd w A l) (hn : l.length < 2 ^ 42) :
    Calls Try.prog 37 #[.slice A l.length c, .string s] w fun e w' => ∃ (k : Nat) (r : Bool), e = .returned (.tuple #[.int .i64 k, .bool r]) ∧ k ≤ l.length ∧ (r = true → k < l.length) ∧ Below w.heap.size w w' := by
  rcases ha with rfl | ⟨b, off, rfl, hc⟩
  · refine (bs_none A c s w).mono ?_
    rintro e w1 ⟨rfl, rfl⟩
    exact ⟨0, false, rfl, Nat.zero_le _, by simp, Below.refl _ _⟩
  · refine (bs_is b off l.length c (fun i => l.getD i s) s w (by omega) (fun j hj => by rw [hc j l[j] (List.getElem?_eq_getElem hj)]; simp [hj])).mono ?_
    rintro e w1 ⟨rfl, q, rfl⟩
    exact ⟨_, _, rfl, bsGo_le _ _ _ _ (Nat.zero_le _), fun h => (of_decide_eq_true h).1, (Below.refl _ _).trans_drewN q⟩
end Go.Proofs.Ytojnhgeffnjndaa.T
