import Derived.Test.YtgakeclocbfnpaaDoorProg
import Derived.Test.YtgakeclocbfnpaaDoorShelf
import Derived.Test.YtgakeclocbfnpaaDoorMem
import Derived.Test.YtgakeclocbfnpaaDoorTa
import Derived.Test.YtgakeclocbfnpaaDoorTa2
import Derived.Test.YtgakeclocbfnpaaDoorTb
import Derived.Test.YtgakeclocbfnpaaDoorTc
import Derived.Test.YtgakeclocbfnpaaDoorTd
import Derived.Test.YtgakeclocbfnpaaDoorTe
import Derived.Test.YtgakeclocbfnpaaDoorTf
import Derived.Test.YtgakeclocbfnpaaDoorTg
import Derived.Test.YtgakeclocbfnpaaDoorTh
import Derived.Test.YtgakeclocbfnpaaDoorTi
import Derived.Test.YtgakeclocbfnpaaDoorTja
import Derived.Test.YtgakeclocbfnpaaDoorTj
import Derived.Test.YtgakeclocbfnpaaDoorTka
import Derived.Test.YtgakeclocbfnpaaDoorTkb
import Derived.Test.YtgakeclocbfnpaaDoorTk
import Derived.Test.YtgakeclocbfnpaaDoorTl
import Derived.Test.YtgakeclocbfnpaaDoorTm
import Derived.Test.YtgakeclocbfnpaaDoorTn
import Derived.WalkKit
import Derived.Outline
import Derived.WalkLawsBesides
import Derived.Deep.QuietTactic
import Derived.BigQuiet
import Derived.Lib.Hide
import Derived.Handy
import Derived.Deep.RegionHeld3
import Derived.Deep.DrawnRows
import Derived.KernelRfl
import Derived.Sort.Walk0
import Derived.Great.Walk
import Derived.Test.YtgakeclocbfnpaaDoorOwn
namespace Go.Proofs.YtgakeclocbfnpaaDoor.T
open Go Go.RowKit Mem Own
set_option maxRecDepth 100000
set_option maxHeartbeats 1000000
set_option linter.unusedVariables false
set_option linter.unusedSimpArgs false

theorem _root_.Go.RowKit.Below.trans_drewN {B : Nat} {w w' : World} (h : Below B w w') (q : Nat) : Below B w (w'.drewN q) := Go.below_drewN h q

theorem eq_of_same {la lb : List ByteArray} (hl : la.length = lb.length) (h : ∀ j (h1 : j < la.length) (h2 : j < lb.length), la[j] = lb[j]) : la = lb := List.ext_getElem hl h

/-- ref06.Same: are two lists the same? -/
theorem same_is (A B : Option Addr) (la lb : List ByteArray) (ca cb : Nat) (w : World) (ha : Rd w A la) (hb : Rd w B lb) (hn : la.length < 2 ^ 62) (hm : lb.length < 2 ^ 62) :
    Calls Tryd.prog 16 #[.slice A la.length ca, .slice B lb.length cb] w fun e w' => e = .returned (.bool (decide (la = lb))) ∧ Below w.heap.size w w' := by
  go_enter Tryd.func16, Tryd.ntmps16
  have HA := Lib.hid ha; have HB := Lib.hid hb
  clear ha hb
  by_cases hl : la.length = lb.length
  · go_wp2_with fail
    go_loopw [5] (fun x wr => ∃ k : Nat, k ≤ la.length ∧ x = .int .i64 k ∧ Below w.heap.size w wr ∧ (∀ j (h1 : j < la.length) (h2 : j < lb.length), j < k → la[j] = lb[j])) (fun x _ => la.length - (intOf x).toNat)
    case atStart => exact ⟨0, Nat.zero_le _, rfl, Below.refl _ _, fun j _ _ h => by omega⟩
    case round =>
      obtain ⟨k, hk, rfl, hbw, hsame⟩ := hrel
      by_cases hlt : k < la.length
      · obtain ⟨b1, o1, rfl⟩ := HA.out.addr (by omega)
        obtain ⟨b2, o2, rfl⟩ := HB.out.addr (by omega)
        have g1 := cell_below hbw (HA.out.cell hlt)
        have g2 := cell_below hbw (HB.out.cell (k := k) (by omega))
        obtain ⟨x, hx⟩ : ∃ x, x = la[k] := ⟨_, rfl⟩
        obtain ⟨y, hy⟩ : ∃ y, y = lb[k]'(by omega) := ⟨_, rfl⟩
        rw [← hx] at g1
        rw [← hy] at g2
        have HX := Lib.hid hx; have HY := Lib.hid hy; have HBW := Lib.hid hbw; have HS := Lib.hid hsame
        clear hx hy hbw hsame
        go_wp2
        go_quiet (fail)
        go_wp2
        · have hne : x ≠ y := fun e => by subst e; simp at *
          go_ret
          refine ⟨ret_bool (Eq.symm (decide_eq_false fun e => hne ?_)), HBW.out.trans_drewN _⟩
          rw [HX.out, HY.out]; simp [e]
        · have he : x = y := ba_inj (by simpa using ‹(!x.toList == y.toList) = false›)
          refine ⟨⟨k + 1, by omega, by go_num, HBW.out.trans_drewN _, fun j h1 h2 hj => ?_⟩, by simp [intOf]; omega⟩
          rcases Nat.lt_succ_iff_lt_or_eq.1 hj with h | rfl
          · exact HS.out j h1 h2 h
          · rw [← HX.out, ← HY.out]; exact he
      · have e : la = lb := eq_of_same hl fun j h1 h2 => hsame j h1 h2 (by omega)
        have HBW := Lib.hid hbw
        clear hsame hbw
        go_wp2
        go_ret
        exact ⟨by simp [e], HBW.out⟩
  · go_wp2
    go_ret
    exact ⟨by simp [show la ≠ lb from fun e => hl (by rw [e])], Below.refl _ _⟩
theorem same_eq (A B : Option Addr) (l : List ByteArray) (ca cb : Nat) (w : World) (ha : Rd w A l) (hb : Rd w B l) (hn : l.length < 2 ^ 62) :
    Calls Tryd.prog 16 #[.slice A l.length ca, .slice B l.length cb] w fun e w' => e = .returned (.bool true) ∧ Below w.heap.size w w' :=
  (same_is A B l l ca cb w ha hb hn hn).mono fun e w' h => by simpa using h
theorem all9_is (w : World) : Calls Tryd.prog 9 #[] w fun e w' => e = .returned (.slice (some ⟨w.heap.size, 0, none⟩) 47 47) ∧ w.alloc (.cells cells 25) = w' := by
  go_enter Tryd.func9, Tryd.ntmps9
  go_wp2_with (go_at_call 19; refine (all_is _).mono ?_; rintro e w1 ⟨rfl, rfl⟩)
  go_ret
  exact ⟨rfl, rfl⟩
theorem rd_lit (w : World) (l : List ByteArray) : Rd (w.alloc (.cells (vs l).toArray 9)) (some ⟨w.heap.size, 0, none⟩) l :=
  .inr ⟨w.heap.size, 0, rfl, fun i x hx => by
    rw [cell_of_row _ _ _ _ 9 (0, 0) (heap_alloc_new w _)]
    simp [vs, hx]⟩
def gt : List ByteArray := [⟨#[103, 101, 116]⟩, ⟨#[97]⟩]
def ms : List ByteArray := [⟨#[109, 115, 101, 116]⟩, ⟨#[97]⟩, ⟨#[49]⟩, ⟨#[98]⟩, ⟨#[50]⟩]
def ab : List ByteArray := [⟨#[97]⟩, ⟨#[98]⟩]
theorem chk_gt : chk gt = (sp 2, 0) := by kernel_rfl
theorem keys_ms : keysOf ms = ab := by kernel_rfl
end Go.Proofs.YtgakeclocbfnpaaDoor.T
