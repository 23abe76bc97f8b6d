import Derived.Test.YtojnhgeffnjndaaProg
import Derived.Test.YtojnhgeffnjndaaShelf
import Derived.Test.YtojnhgeffnjndaaSb
import Derived.WalkKit
import Derived.Outline
import Derived.WalkLawsBesides
import Derived.Deep.QuietTactic
import Derived.BigQuiet
import Derived.Lib.Hide
import Derived.Handy
import Derived.Deep.RegionHeld3
import Derived.Deep.DrawnRows
import Derived.Sort.OwnSorted
namespace Go.Proofs.Ytojnhgeffnjndaa.T
open Go Go.RowKit Mem Go.Great Go.Sort Go.Lib
set_option maxRecDepth 100000
set_option maxHeartbeats 8000000
set_option linter.unusedVariables false
set_option linter.unusedSimpArgs false

theorem right_eq (A : Option Addr) (l : List ByteArray) (c : Nat) (r : Bool) (hr : r = true ↔ Srt l) (w : World) (ha : Rd w A l) (hn : l.length < 2 ^ 62) :
    Calls Try.prog 13 #[.slice A l.length c] w fun e w' => e = .returned (.bool r) ∧ Below w.heap.size w w' :=
  (right13_is A l c w ha hn).mono fun e w' ⟨r', he, hr', hb⟩ => ⟨by rw [he, show r' = r from Bool.eq_iff_iff.2 (hr'.trans hr.symm)], hb⟩
theorem rright_eq (A : Option Addr) (l : List ByteArray) (c : Nat) (r : Bool) (hr : r = true ↔ Srt l) (w : World) (ha : Rd w A l) (hn : l.length < 2 ^ 62) :
    Calls Try.prog 14 #[.slice A l.length c] w fun e w' => e = .returned (.bool r) ∧ Below w.heap.size w w' :=
  (right14_is A l c w ha hn).mono fun e w' ⟨r', he, hr', hb⟩ => ⟨by rw [he, show r' = r from Bool.eq_iff_iff.2 (hr'.trans hr.symm)], hb⟩
theorem made_one {l m m' : List ByteArray} (h : MadeOf l m) (h' : MadeOf l m') : m' = m := srt_ext h'.1 h.1 fun x => (h'.2.1 x).trans (h.2.1 x).symm
/-- ref08.Make makes the set that is known. -/
theorem rmake_as (A : Option Addr) (l m : List ByteArray) (hm : MadeOf l m) (c : Nat) (w : World) (ha : Rd w A l) (hn : l.length < 2 ^ 29) :
    Calls Try.prog 16 #[.slice A l.length c] w fun e w' => ∃ (C : Option Addr) (k : Nat), e = .returned (.slice C m.length k) ∧ RowKit.Hid (Rd w' C m) ∧ Below w.heap.size w w' :=
  (rmake_is A l c w ha hn).mono fun e w' ⟨m', C, k, he, h1, h2, hb⟩ => by
    obtain rfl := made_one hm h1.out
    exact ⟨C, k, he, h2, hb⟩

theorem setsRight_is (A : Option Addr) (la : List ByteArray) (ca : Nat) (w : World) (ha : Rd w A la) :
    Calls Try.prog 3 #[.slice A la.length ca] w fun e w' => e = .returned (.bool true) ∧ Below w.heap.size w w' := by
  have HA := Lib.hid ha
  clear ha
  by_cases h1 : la.length ≤ 1000 ∧ 0 ≤ 1000
  · obtain ⟨r, hr⟩ : ∃ r : Bool, r = true ↔ Srt la := by
      by_cases h : Srt la
      · exact ⟨true, by simp [h]⟩
      · exact ⟨false, by simp [h]⟩
    have HR := Lib.hid hr
    clear hr
    go_enter Try.func3, Try.ntmps3
    go_wp2_with (first
      | (go_at_call 10; (with_reducible refine (few_yes A none la.length 0 ca 0 h1 _).mono ?_); rintro e wf ⟨rfl, rfl⟩)
      | (go_at_call 12; (with_reducible refine Calls.mono (make_is A la ca _ HA.out ?_) ?_); (focus omega); rintro e w1 ⟨ma, Aa, c1, rfl, hma, hra, ka, kam, hb1⟩; have hz1 : w.heap.size ≤ w1.heap.size := hb1.size; have La := hma.out.2.2)
      | (go_at_call 11; (with_reducible refine (alive_is _).mono ?_); rintro e w2 ⟨rfl, hb2⟩; have hz2 : w1.heap.size ≤ w2.heap.size := hb2.size)
      | (go_at_call 13; (with_reducible refine Calls.mono (right_eq A la ca r HR.out _ (HA.out.below ?_) ?_) ?_); (focus ((repeat (first | exact Below.refl _ _ | (refine Below.drew ?_) | (refine Go.below_drewN ?_ _) | (refine Below.alloc ?_ (by first | (simp; done) | omega | (simp; omega)) _) | (refine Below.setCell ?_ (by first | (simp; done) | omega | (simp; omega)) _) | (refine Below.trans ?_ (Below.mono (by assumption) (by first | (simp; done) | omega | (simp; omega)))))); done)); (focus omega); rintro e w3 ⟨rfl, hb3⟩; have hz3 : w2.heap.size ≤ w3.heap.size := hb3.size)
      | (go_at_call 14; (with_reducible refine Calls.mono (rright_eq A la ca r HR.out _ (HA.out.below ?_) ?_) ?_); (focus ((repeat (first | exact Below.refl _ _ | (refine Below.drew ?_) | (refine Go.below_drewN ?_ _) | (refine Below.alloc ?_ (by first | (simp; done) | omega | (simp; omega)) _) | (refine Below.setCell ?_ (by first | (simp; done) | omega | (simp; omega)) _) | (refine Below.trans ?_ (Below.mono (by assumption) (by first | (simp; done) | omega | (simp; omega)))))); done)); (focus omega); rintro e w4 ⟨rfl, hb4⟩; have hz4 : w3.heap.size ≤ w4.heap.size := hb4.size)
      | (go_at_call 16; (with_reducible refine Calls.mono (rmake_as A la ma hma.out ca _ (HA.out.below ?_) ?_) ?_); (focus ((repeat (first | exact Below.refl _ _ | (refine Below.drew ?_) | (refine Go.below_drewN ?_ _) | (refine Below.alloc ?_ (by first | (simp; done) | omega | (simp; omega)) _) | (refine Below.setCell ?_ (by first | (simp; done) | omega | (simp; omega)) _) | (refine Below.trans ?_ (Below.mono (by assumption) (by first | (simp; done) | omega | (simp; omega)))))); done)); (focus omega); rintro e w5 ⟨Ab, c2, rfl, hrb, hb5⟩; have hz5 : w4.heap.size ≤ w5.heap.size := hb5.size)
      | (go_at_call 15; (with_reducible refine Calls.mono (same_eq Aa Ab ma c1 c2 _ (hra.out.below ?_) (hrb.out.below ?_) ?_) ?_); (focus ((repeat (first | exact Below.refl _ _ | (refine Below.drew ?_) | (refine Go.below_drewN ?_ _) | (refine Below.alloc ?_ (by first | (simp; done) | omega | (simp; omega)) _) | (refine Below.setCell ?_ (by first | (simp; done) | omega | (simp; omega)) _) | (refine Below.trans ?_ (Below.mono (by assumption) (by first | (simp; done) | omega | (simp; omega)))))); done)); (focus ((repeat (first | exact Below.refl _ _ | (refine Below.drew ?_) | (refine Go.below_drewN ?_ _) | (refine Below.alloc ?_ (by first | (simp; done) | omega | (simp; omega)) _) | (refine Below.setCell ?_ (by first | (simp; done) | omega | (simp; omega)) _) | (refine Below.trans ?_ (Below.mono (by assumption) (by first | (simp; done) | omega | (simp; omega)))))); done)); (focus omega); rintro e w6 ⟨rfl, hb6⟩; have hz6 : w5.heap.size ≤ w6.heap.size := hb6.size)
      | (go_at_call 13; (with_reducible refine Calls.mono (right_eq Aa ma c1 true ?_ _ (hra.out.below ?_) ?_) ?_); (focus (exact ⟨fun _ => hma.out.1, fun _ => rfl⟩)); (focus ((repeat (first | exact Below.refl _ _ | (refine Below.drew ?_) | (refine Go.below_drewN ?_ _) | (refine Below.alloc ?_ (by first | (simp; done) | omega | (simp; omega)) _) | (refine Below.setCell ?_ (by first | (simp; done) | omega | (simp; omega)) _) | (refine Below.trans ?_ (Below.mono (by assumption) (by first | (simp; done) | omega | (simp; omega)))))); done)); (focus omega); rintro e w7 ⟨rfl, hb7⟩; have hz7 : w6.heap.size ≤ w7.heap.size := hb7.size))
    go_ret
    exact ⟨by simp, (by ((repeat (first | exact Below.refl _ _ | (refine Below.drew ?_) | (refine Go.below_drewN ?_ _) | (refine Below.alloc ?_ (by first | (simp; done) | omega | (simp; omega)) _) | (refine Below.setCell ?_ (by first | (simp; done) | omega | (simp; omega)) _) | (refine Below.trans ?_ (Below.mono (by assumption) (by first | (simp; done) | omega | (simp; omega)))))); done))⟩
  · go_enter Try.func3, Try.ntmps3
    go_wp2_with (first
      | (go_at_call 10; (with_reducible refine (few_no A none la.length 0 ca 0 h1 _).mono ?_); rintro e wf ⟨rfl, rfl⟩)
      | (go_at_call 11; (with_reducible refine (alive_is _).mono ?_); rintro e w1 ⟨rfl, hb1⟩))
    go_ret
    exact ⟨rfl, by assumption⟩
end Go.Proofs.Ytojnhgeffnjndaa.T
