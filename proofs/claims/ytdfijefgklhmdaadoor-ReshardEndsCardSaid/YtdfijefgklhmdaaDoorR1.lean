import Derived.Test.YtdfijefgklhmdaaDoorProg
import Derived.Test.YtdfijefgklhmdaaDoorShelf
import Derived.Test.YtdfijefgklhmdaaDoorMem
import Derived.WalkKit
import Derived.Outline
import Derived.WalkLawsBesides
import Derived.Deep.QuietTactic
import Derived.BigQuiet
import Derived.Lib.Hide
import Derived.Handy
import Derived.Deep.RegionHeld3
import Derived.Deep.DrawnRows
namespace Go.Proofs.YtdfijefgklhmdaaDoor.T
open Go Go.RowKit Mem
set_option maxRecDepth 100000
set_option maxHeartbeats 8000000
set_option linter.unusedVariables false
set_option linter.unusedSimpArgs false

abbrev mv (s f t : Int) : Value := .agg #[.int .i64 s, .int .i64 f, .int .i64 t]

theorem same_slot (s f t s' : Int) (a : Addr) (w : World) (ha : w.cell? a = some (.int .i64 s')) :
    Calls Tryd.prog 20 #[mv s f t, .pointer (some a)] w fun e w' => e = .returned (.bool (s == s')) ∧ w.alloc (.cells #[.int .i64 s, .int .i64 f, .int .i64 t] 37) = w' := by
  have hu := Tryd.underlying37
  have hn := fun o => cell_alloc ha o
  go_enter Tryd.func20, Tryd.ntmps20
  go_wp2
  go_ret
  exact ⟨rfl, rfl⟩

theorem index_slot (b off n cap : Nat) (S F T : Nat → Int) (s' : Int) (a : Addr) (w : World) (ha : w.cell? a = some (.int .i64 s')) (hn : n ≤ 1000)
    (h0 : ∀ i, i < n → w.cell? ⟨b, off + i * 3, none⟩ = some (.int .i64 (S i))) (h1 : ∀ i, i < n → w.cell? ⟨b, off + i * 3 + 1, none⟩ = some (.int .i64 (F i))) (h2 : ∀ i, i < n → w.cell? ⟨b, off + i * 3 + 2, none⟩ = some (.int .i64 (T i))) :
    Calls Tryd.prog 29 #[.slice (some ⟨b, off, none⟩) n cap, .func (.func 20) #[] #[.pointer (some a)]] w fun e w' => ∃ k : Int, e = .returned (.int .i64 k) ∧ (0 ≤ k ↔ ∃ i, i < n ∧ S i = s') ∧ Below w.heap.size w w' := by
  have hu := Tryd.underlying37
  go_enter Tryd.func29, Tryd.ntmps29
  go_wp2_with fail
  go_loopw [4, 5, 8] (fun r i x wr => ∃ k : Nat, k ≤ n ∧ x = .int .i64 k ∧ Below w.heap.size w wr ∧ (∀ j, j < k → S j ≠ s')) (fun _ _ x _ => n - (intOf x).toNat)
  case atStart => exact ⟨0, Nat.zero_le _, rfl, Below.refl _ _, fun j h => by omega⟩
  case round =>
    obtain ⟨k, hk, rfl, hb, hno⟩ := hrel
    by_cases hlt : k < n
    · have g0 := cell_below hb (h0 k hlt)
      have g1 := cell_below hb (h1 k hlt)
      have g2 := cell_below hb (h2 k hlt)
      have ga := cell_below hb ha
      have HB := Lib.hid hb; have HN := Lib.hid hno
      clear h0 h1 h2 ha hb hno
      go_wp2_with (go_at_call 20; refine (same_slot _ _ _ s' a _ ga).mono ?_; rintro e w1 ⟨rfl, rfl⟩)
      · have hs : S k = s' := by simpa using ‹(S k == s') = true›
        go_ret
        exact ⟨(k : Int), rfl, ⟨fun _ => ⟨k, hlt, hs⟩, fun _ => by omega⟩, HB.out.alloc HB.out.size _⟩
      · have hs : ¬ S k = s' := by
          intro e
          have hx : (S k == s') = false := by first | assumption | (simp; assumption)
          simp [e] at hx
        refine ⟨⟨k + 1, by omega, by go_num, HB.out.alloc HB.out.size _, fun j hj => ?_⟩, by simp [intOf]; omega⟩
        rcases Nat.lt_succ_iff_lt_or_eq.1 hj with h | rfl
        · exact HN.out j h
        · exact hs
    · have HB := Lib.hid hb; have HN := Lib.hid hno
      clear h0 h1 h2 ha hb hno
      go_wp2
      go_ret
      refine ⟨-1, rfl, ⟨fun h => by omega, fun ⟨i, hi, e⟩ => absurd e (HN.out i (by omega))⟩, HB.out⟩

/-- Is the slot among the first n moves? -/
theorem contains_slot (b off n cap : Nat) (S F T : Nat → Int) (s' : Int) (a : Addr) (w : World) (ha : w.cell? a = some (.int .i64 s')) (hn : n ≤ 1000)
    (h0 : ∀ i, i < n → w.cell? ⟨b, off + i * 3, none⟩ = some (.int .i64 (S i))) (h1 : ∀ i, i < n → w.cell? ⟨b, off + i * 3 + 1, none⟩ = some (.int .i64 (F i))) (h2 : ∀ i, i < n → w.cell? ⟨b, off + i * 3 + 2, none⟩ = some (.int .i64 (T i))) :
    Calls Tryd.prog 19 #[.slice (some ⟨b, off, none⟩) n cap, .func (.func 20) #[] #[.pointer (some a)]] w fun e w' => ∃ r : Bool, e = .returned (.bool r) ∧ (r = true ↔ ∃ i, i < n ∧ S i = s') ∧ Below w.heap.size w w' := by
  go_enter Tryd.func19, Tryd.ntmps19
  have HH := Lib.hid (And.intro h0 (And.intro h1 h2))
  clear h0 h1 h2
  go_wp2_with (go_at_call 29; refine (index_slot b off n cap S F T s' a _ ha hn HH.out.1 HH.out.2.1 HH.out.2.2).mono ?_; rintro e w1 ⟨k, rfl, hk, hb⟩; have HK := Lib.hid hk; clear hk)
  go_ret
  exact ⟨_, rfl, by rw [← HK.out]; simp, hb⟩
end Go.Proofs.YtdfijefgklhmdaaDoor.T
