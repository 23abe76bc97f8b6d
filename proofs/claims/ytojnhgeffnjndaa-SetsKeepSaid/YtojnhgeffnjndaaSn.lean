import Derived.Test.YtojnhgeffnjndaaProg
import Derived.Test.YtojnhgeffnjndaaShelf
import Derived.Test.YtojnhgeffnjndaaSm
import Derived.WalkKit
import Derived.Outline
import Derived.WalkLawsBesides
import Derived.Deep.QuietTactic
import Derived.BigQuiet
import Derived.Lib.Hide
import Derived.Handy
import Derived.Deep.RegionHeld3
import Derived.Deep.DrawnRows
import Derived.Shelf.Spec.SlicesInsertGrow
import Derived.Sort.OwnSorted
import Derived.Laws.AppendOwnNone
namespace Go.Proofs.Ytojnhgeffnjndaa.T
open Go Go.RowKit Mem Go.Great Go.Sort Go.Lib
set_option maxRecDepth 100000
set_option maxHeartbeats 8000000
set_option linter.unusedVariables false
set_option linter.unusedSimpArgs false



theorem has_as (A : Option Addr) (l : List ByteArray) (c : Nat) (s : ByteArray) (w : World) (ha : Rd w A l) (hs : Srt l) (hn : l.length < 2 ^ 42) :
    Calls Try.prog 23 #[.slice A l.length c, .string s] w fun e w' => e = .returned (.bool (mem l s)) ∧ Below w.heap.size w w' :=
  (has_is A l c s w ha hs hn).mono fun e w' ⟨r, he, hr, hb⟩ => ⟨by rw [he, show r = mem l s from Bool.eq_iff_iff.2 (hr.trans mem_iff.symm)], hb⟩
theorem rhas_as (A : Option Addr) (l : List ByteArray) (c : Nat) (s : ByteArray) (w : World) (ha : Rd w A l) (hn : l.length < 2 ^ 62) :
    Calls Try.prog 24 #[.slice A l.length c, .string s] w fun e w' => e = .returned (.bool (mem l s)) ∧ Below w.heap.size w w' :=
  (rhas_is A l c s w ha hn).mono fun e w' ⟨r, he, hr, hb⟩ => ⟨by rw [he, show r = mem l s from Bool.eq_iff_iff.2 (hr.trans mem_iff.symm)], hb⟩
theorem rwith_as (A : Option Addr) (l r : List ByteArray) (c : Nat) (s : ByteArray) (hr : Srt r ∧ (∀ x, x ∈ r ↔ x ∈ l ∨ x = s)) (w : World) (ha : Rd w A l) (hs : Srt l) (hn : l.length < 2 ^ 30) :
    Calls Try.prog 26 #[.slice A l.length c, .string s] w fun e w' => ∃ (C : Option Addr) (k : Nat), e = .returned (.slice C r.length k) ∧ RowKit.Hid (Rd w' C r) ∧ Below w.heap.size w w' :=
  (rwith_is A l c s w ha hs hn).mono fun e w' ⟨r', C, k, he, h1, h2, _, hb⟩ => by
    obtain rfl : r' = r := srt_ext h1.out.1 hr.1 fun x => (h1.out.2.1 x).trans (hr.2 x).symm
    exact ⟨C, k, he, h2, hb⟩

theorem setsOne_is (A : Option Addr) (la : List ByteArray) (s : ByteArray) (ca : Nat) (w : World) (ha : Rd w A la) :
    Calls Try.prog 7 #[.slice A la.length ca, .string s] w fun e w' => e = .returned (.bool true) ∧ Below w.heap.size w w' := by
  have HA := Lib.hid ha
  clear ha
  by_cases h1 : la.length ≤ 1000 ∧ 0 ≤ 1000
  · go_enter Try.func7, Try.ntmps7
    go_wp2_with (first
      | (go_at_call 10; (with_reducible refine (few_yes A none la.length 0 ca 0 h1 _).mono ?_); rintro e wf ⟨rfl, rfl⟩)
      | (go_at_call 16; (with_reducible refine Calls.mono (rmake_is A la ca _ HA.out ?_) ?_); (focus omega); rintro e w1 ⟨ma, A1, a1, rfl, hma, hra, hna, hb1⟩; have hz1 : w.heap.size ≤ w1.heap.size := hb1.size; have La := hma.out.2.2; have SA := Lib.hid hma.out.1; have Lw := wo_len s ma)
      | (go_at_call 11; (with_reducible refine (alive_is _).mono ?_); rintro e w2 ⟨rfl, hb2⟩; have hz2 : w1.heap.size ≤ w2.heap.size := hb2.size)
      | (go_at_call 23; (with_reducible refine Calls.mono (has_as A1 ma a1 s _ (hra.out.below ?_) SA.out ?_) ?_); (focus ((repeat (first | exact Below.refl _ _ | (refine Below.drew ?_) | (refine Go.below_drewN ?_ _) | (refine Below.alloc ?_ (by first | (simp; done) | omega | (simp; omega)) _) | (refine Below.setCell ?_ (by first | (simp; done) | omega | (simp; omega)) _) | (refine Below.trans ?_ (Below.mono (by assumption) (by first | (simp; done) | omega | (simp; omega)))))); done)); (focus omega); rintro e w3 ⟨rfl, hb3⟩; have hz3 : w2.heap.size ≤ w3.heap.size := hb3.size)
      | (go_at_call 24; (with_reducible refine Calls.mono (rhas_as A1 ma a1 s _ (hra.out.below ?_) ?_) ?_); (focus ((repeat (first | exact Below.refl _ _ | (refine Below.drew ?_) | (refine Go.below_drewN ?_ _) | (refine Below.alloc ?_ (by first | (simp; done) | omega | (simp; omega)) _) | (refine Below.setCell ?_ (by first | (simp; done) | omega | (simp; omega)) _) | (refine Below.trans ?_ (Below.mono (by assumption) (by first | (simp; done) | omega | (simp; omega)))))); done)); (focus omega); rintro e w4 ⟨rfl, hb4⟩; have hz4 : w3.heap.size ≤ w4.heap.size := hb4.size)
      | (go_at_call 25; (with_reducible refine Calls.mono (with_is A1 ma s a1 _ (hra.out.below ?_) SA.out ?_) ?_); (focus ((repeat (first | exact Below.refl _ _ | (refine Below.drew ?_) | (refine Go.below_drewN ?_ _) | (refine Below.alloc ?_ (by first | (simp; done) | omega | (simp; omega)) _) | (refine Below.setCell ?_ (by first | (simp; done) | omega | (simp; omega)) _) | (refine Below.trans ?_ (Below.mono (by assumption) (by first | (simp; done) | omega | (simp; omega)))))); done)); (focus omega); rintro e w5 ⟨r5, C5, c5, rfl, hm5, hr5, hb5⟩; have hz5 : w4.heap.size ≤ w5.heap.size := hb5.size; have L5 := hm5.out.2.2; have P5 := Lib.hid (And.intro hm5.out.1 hm5.out.2.1))
      | (go_at_call 26; (with_reducible refine Calls.mono (rwith_as A1 ma r5 a1 s P5.out _ (hra.out.below ?_) SA.out ?_) ?_); (focus ((repeat (first | exact Below.refl _ _ | (refine Below.drew ?_) | (refine Go.below_drewN ?_ _) | (refine Below.alloc ?_ (by first | (simp; done) | omega | (simp; omega)) _) | (refine Below.setCell ?_ (by first | (simp; done) | omega | (simp; omega)) _) | (refine Below.trans ?_ (Below.mono (by assumption) (by first | (simp; done) | omega | (simp; omega)))))); done)); (focus omega); rintro e w6 ⟨C6, c6, rfl, hr6, hb6⟩; have hz6 : w5.heap.size ≤ w6.heap.size := hb6.size)
      | (go_at_call 15; (with_reducible refine Calls.mono (same_eq C5 C6 r5 c5 c6 _ (hr5.out.below ?_) (hr6.out.below ?_) ?_) ?_); (focus ((repeat (first | exact Below.refl _ _ | (refine Below.drew ?_) | (refine Go.below_drewN ?_ _) | (refine Below.alloc ?_ (by first | (simp; done) | omega | (simp; omega)) _) | (refine Below.setCell ?_ (by first | (simp; done) | omega | (simp; omega)) _) | (refine Below.trans ?_ (Below.mono (by assumption) (by first | (simp; done) | omega | (simp; omega)))))); done)); (focus ((repeat (first | exact Below.refl _ _ | (refine Below.drew ?_) | (refine Go.below_drewN ?_ _) | (refine Below.alloc ?_ (by first | (simp; done) | omega | (simp; omega)) _) | (refine Below.setCell ?_ (by first | (simp; done) | omega | (simp; omega)) _) | (refine Below.trans ?_ (Below.mono (by assumption) (by first | (simp; done) | omega | (simp; omega)))))); done)); (focus omega); rintro e w7 ⟨rfl, hb7⟩; have hz7 : w6.heap.size ≤ w7.heap.size := hb7.size)
      | (go_at_call 27; (with_reducible refine Calls.mono (without_is A1 ma s a1 _ (hra.out.below ?_) SA.out ?_) ?_); (focus ((repeat (first | exact Below.refl _ _ | (refine Below.drew ?_) | (refine Go.below_drewN ?_ _) | (refine Below.alloc ?_ (by first | (simp; done) | omega | (simp; omega)) _) | (refine Below.setCell ?_ (by first | (simp; done) | omega | (simp; omega)) _) | (refine Below.trans ?_ (Below.mono (by assumption) (by first | (simp; done) | omega | (simp; omega)))))); done)); (focus omega); rintro e w8 ⟨C8, c8, rfl, hr8, hb8⟩; have hz8 : w7.heap.size ≤ w8.heap.size := hb8.size)
      | (go_at_call 28; (with_reducible refine Calls.mono (rwithout_is A1 ma s a1 _ (hra.out.below ?_) ?_) ?_); (focus ((repeat (first | exact Below.refl _ _ | (refine Below.drew ?_) | (refine Go.below_drewN ?_ _) | (refine Below.alloc ?_ (by first | (simp; done) | omega | (simp; omega)) _) | (refine Below.setCell ?_ (by first | (simp; done) | omega | (simp; omega)) _) | (refine Below.trans ?_ (Below.mono (by assumption) (by first | (simp; done) | omega | (simp; omega)))))); done)); (focus omega); rintro e w9 ⟨C9, c9, rfl, hr9, hb9⟩; have hz9 : w8.heap.size ≤ w9.heap.size := hb9.size)
      | (go_at_call 15; (with_reducible refine Calls.mono (same_eq C8 C9 (wo s ma) c8 c9 _ (hr8.out.below ?_) (hr9.out.below ?_) ?_) ?_); (focus ((repeat (first | exact Below.refl _ _ | (refine Below.drew ?_) | (refine Go.below_drewN ?_ _) | (refine Below.alloc ?_ (by first | (simp; done) | omega | (simp; omega)) _) | (refine Below.setCell ?_ (by first | (simp; done) | omega | (simp; omega)) _) | (refine Below.trans ?_ (Below.mono (by assumption) (by first | (simp; done) | omega | (simp; omega)))))); done)); (focus ((repeat (first | exact Below.refl _ _ | (refine Below.drew ?_) | (refine Go.below_drewN ?_ _) | (refine Below.alloc ?_ (by first | (simp; done) | omega | (simp; omega)) _) | (refine Below.setCell ?_ (by first | (simp; done) | omega | (simp; omega)) _) | (refine Below.trans ?_ (Below.mono (by assumption) (by first | (simp; done) | omega | (simp; omega)))))); done)); (focus omega); rintro e w10 ⟨rfl, hb10⟩; have hz10 : w9.heap.size ≤ w10.heap.size := hb10.size))
    go_ret
    exact ⟨by simp, (by ((repeat (first | exact Below.refl _ _ | (refine Below.drew ?_) | (refine Go.below_drewN ?_ _) | (refine Below.alloc ?_ (by first | (simp; done) | omega | (simp; omega)) _) | (refine Below.setCell ?_ (by first | (simp; done) | omega | (simp; omega)) _) | (refine Below.trans ?_ (Below.mono (by assumption) (by first | (simp; done) | omega | (simp; omega)))))); done))⟩
  · go_enter Try.func7, Try.ntmps7
    go_wp2_with (first
      | (go_at_call 10; (with_reducible refine (few_no A none la.length 0 ca 0 h1 _).mono ?_); rintro e wf ⟨rfl, rfl⟩)
      | (go_at_call 11; (with_reducible refine (alive_is _).mono ?_); rintro e w1 ⟨rfl, hb1⟩))
    go_ret
    exact ⟨rfl, by assumption⟩
end Go.Proofs.Ytojnhgeffnjndaa.T
