import Derived.Test.YtojnhgeffnjndaaProg
import Derived.Test.YtojnhgeffnjndaaShelf
import Derived.Test.YtojnhgeffnjndaaSp
import Derived.WalkKit
import Derived.Outline
import Derived.WalkLawsBesides
import Derived.Deep.QuietTactic
import Derived.BigQuiet
import Derived.Lib.Hide
import Derived.Handy
import Derived.Deep.RegionHeld3
import Derived.Deep.DrawnRows
import Derived.Shelf.Spec.SlicesInsertGrow
import Derived.Sort.OwnSorted
import Derived.Laws.AppendOwnNone
namespace Go.Proofs.Ytojnhgeffnjndaa.T
open Go Go.RowKit Mem Go.Great Go.Sort Go.Lib
set_option maxRecDepth 100000
set_option maxHeartbeats 8000000
set_option linter.unusedVariables false
set_option linter.unusedSimpArgs false




theorem setsAny_is (A B : Option Addr) (la lb : List ByteArray) (s : ByteArray) (ca cb : Nat) (w : World) (ha : Rd w A la) (hb : Rd w B lb) (hca : la.length ≤ ca) (hcb : lb.length ≤ cb) (hca2 : ca ≤ maxLen) (hcb2 : cb ≤ maxLen) (hn : la.length < 2 ^ 28) (hm : lb.length < 2 ^ 28) :
    Calls Try.prog 9 #[.slice A la.length ca, .slice B lb.length cb, .string s] w fun e w' => e = .returned (.bool true) ∧ Below w.heap.size w w' := by
  have HA := Lib.hid ha; have HB := Lib.hid hb
  clear ha hb
  go_enter Try.func9, Try.ntmps9
  go_wp2_with (first
    | (go_at_call 23; (with_reducible refine Calls.mono (has_any A la ca s _ HA.out ?_) ?_); (focus omega); rintro e w1 ⟨r, rfl, hb1⟩; have hz1 : w.heap.size ≤ w1.heap.size := hb1.size)
    | (go_at_call 25; (with_reducible refine Calls.mono (with_any A la s ca _ (HA.out.below ?_) ?_) ?_); (focus ((repeat (first | exact Below.refl _ _ | (refine Below.drew ?_) | (refine Go.below_drewN ?_ _) | (refine Below.alloc ?_ (by first | (simp; done) | omega | (simp; omega)) _) | (refine Below.setCell ?_ (by first | (simp; done) | omega | (simp; omega)) _) | (refine Below.trans ?_ (Below.mono (by assumption) (by first | (simp; done) | omega | (simp; omega)))))); done)); (focus omega); rintro e w2 ⟨v2, rfl, hb2⟩; have hz2 : w1.heap.size ≤ w2.heap.size := hb2.size)
    | (go_at_call 27; (with_reducible refine Calls.mono (without_any A la s ca _ (HA.out.below ?_) ?_) ?_); (focus ((repeat (first | exact Below.refl _ _ | (refine Below.drew ?_) | (refine Go.below_drewN ?_ _) | (refine Below.alloc ?_ (by first | (simp; done) | omega | (simp; omega)) _) | (refine Below.setCell ?_ (by first | (simp; done) | omega | (simp; omega)) _) | (refine Below.trans ?_ (Below.mono (by assumption) (by first | (simp; done) | omega | (simp; omega)))))); done)); (focus omega); rintro e w3 ⟨v3, rfl, hb3⟩; have hz3 : w2.heap.size ≤ w3.heap.size := hb3.size)
    | (go_at_call 17; (with_reducible refine Calls.mono (union_rd A B la lb ca cb _ (HA.out.below ?_) (HB.out.below ?_) hca hcb ?_ hca2 hcb2 _ rfl) ?_); (focus ((repeat (first | exact Below.refl _ _ | (refine Below.drew ?_) | (refine Go.below_drewN ?_ _) | (refine Below.alloc ?_ (by first | (simp; done) | omega | (simp; omega)) _) | (refine Below.setCell ?_ (by first | (simp; done) | omega | (simp; omega)) _) | (refine Below.trans ?_ (Below.mono (by assumption) (by first | (simp; done) | omega | (simp; omega)))))); done)); (focus ((repeat (first | exact Below.refl _ _ | (refine Below.drew ?_) | (refine Go.below_drewN ?_ _) | (refine Below.alloc ?_ (by first | (simp; done) | omega | (simp; omega)) _) | (refine Below.setCell ?_ (by first | (simp; done) | omega | (simp; omega)) _) | (refine Below.trans ?_ (Below.mono (by assumption) (by first | (simp; done) | omega | (simp; omega)))))); done)); (focus omega); rintro e w4 ⟨C4, c4, rfl, _, _, _, hb4⟩; have hz4 : w3.heap.size ≤ w4.heap.size := hb4.size)
    | (go_at_call 18; (with_reducible refine Calls.mono (meet_rd A B la lb ca cb _ (HA.out.below ?_) (HB.out.below ?_) hca hcb ?_ hca2 hcb2 _ rfl) ?_); (focus ((repeat (first | exact Below.refl _ _ | (refine Below.drew ?_) | (refine Go.below_drewN ?_ _) | (refine Below.alloc ?_ (by first | (simp; done) | omega | (simp; omega)) _) | (refine Below.setCell ?_ (by first | (simp; done) | omega | (simp; omega)) _) | (refine Below.trans ?_ (Below.mono (by assumption) (by first | (simp; done) | omega | (simp; omega)))))); done)); (focus ((repeat (first | exact Below.refl _ _ | (refine Below.drew ?_) | (refine Go.below_drewN ?_ _) | (refine Below.alloc ?_ (by first | (simp; done) | omega | (simp; omega)) _) | (refine Below.setCell ?_ (by first | (simp; done) | omega | (simp; omega)) _) | (refine Below.trans ?_ (Below.mono (by assumption) (by first | (simp; done) | omega | (simp; omega)))))); done)); (focus omega); rintro e w5 ⟨C5, c5, rfl, _, _, _, hb5⟩; have hz5 : w4.heap.size ≤ w5.heap.size := hb5.size)
    | (go_at_call 21; (with_reducible refine Calls.mono (less_rd A B la lb ca cb _ (HA.out.below ?_) (HB.out.below ?_) hca hcb ?_ hca2 hcb2 _ rfl) ?_); (focus ((repeat (first | exact Below.refl _ _ | (refine Below.drew ?_) | (refine Go.below_drewN ?_ _) | (refine Below.alloc ?_ (by first | (simp; done) | omega | (simp; omega)) _) | (refine Below.setCell ?_ (by first | (simp; done) | omega | (simp; omega)) _) | (refine Below.trans ?_ (Below.mono (by assumption) (by first | (simp; done) | omega | (simp; omega)))))); done)); (focus ((repeat (first | exact Below.refl _ _ | (refine Below.drew ?_) | (refine Go.below_drewN ?_ _) | (refine Below.alloc ?_ (by first | (simp; done) | omega | (simp; omega)) _) | (refine Below.setCell ?_ (by first | (simp; done) | omega | (simp; omega)) _) | (refine Below.trans ?_ (Below.mono (by assumption) (by first | (simp; done) | omega | (simp; omega)))))); done)); (focus omega); rintro e w6 ⟨C6, c6, rfl, _, _, _, hb6⟩; have hz6 : w5.heap.size ≤ w6.heap.size := hb6.size)
    | (go_at_call 22; (with_reducible refine Calls.mono (inside_eq A B la lb ca cb _ rfl _ (HA.out.below ?_) (HB.out.below ?_) hca hcb ?_ hca2 hcb2) ?_); (focus ((repeat (first | exact Below.refl _ _ | (refine Below.drew ?_) | (refine Go.below_drewN ?_ _) | (refine Below.alloc ?_ (by first | (simp; done) | omega | (simp; omega)) _) | (refine Below.setCell ?_ (by first | (simp; done) | omega | (simp; omega)) _) | (refine Below.trans ?_ (Below.mono (by assumption) (by first | (simp; done) | omega | (simp; omega)))))); done)); (focus ((repeat (first | exact Below.refl _ _ | (refine Below.drew ?_) | (refine Go.below_drewN ?_ _) | (refine Below.alloc ?_ (by first | (simp; done) | omega | (simp; omega)) _) | (refine Below.setCell ?_ (by first | (simp; done) | omega | (simp; omega)) _) | (refine Below.trans ?_ (Below.mono (by assumption) (by first | (simp; done) | omega | (simp; omega)))))); done)); (focus omega); rintro e w7 ⟨rfl, hb7⟩; have hz7 : w6.heap.size ≤ w7.heap.size := hb7.size)
    | (go_at_call 11; (with_reducible refine (alive_is _).mono ?_); rintro e w8 ⟨rfl, hb8⟩; have hz8 : w7.heap.size ≤ w8.heap.size := hb8.size))
  go_ret
  exact ⟨rfl, (by ((repeat (first | exact Below.refl _ _ | (refine Below.drew ?_) | (refine Go.below_drewN ?_ _) | (refine Below.alloc ?_ (by first | (simp; done) | omega | (simp; omega)) _) | (refine Below.setCell ?_ (by first | (simp; done) | omega | (simp; omega)) _) | (refine Below.trans ?_ (Below.mono (by assumption) (by first | (simp; done) | omega | (simp; omega)))))); done))⟩
end Go.Proofs.Ytojnhgeffnjndaa.T
