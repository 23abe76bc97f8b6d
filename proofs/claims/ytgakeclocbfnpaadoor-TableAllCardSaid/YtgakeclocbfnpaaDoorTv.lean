import Derived.Deep.DeepCutAuto
import Derived.Test.YtgakeclocbfnpaaDoorProg
import Derived.Test.YtgakeclocbfnpaaDoorShelf
import Derived.Test.YtgakeclocbfnpaaDoorMem
import Derived.Test.YtgakeclocbfnpaaDoorTa
import Derived.Test.YtgakeclocbfnpaaDoorTa2
import Derived.Test.YtgakeclocbfnpaaDoorTb
import Derived.Test.YtgakeclocbfnpaaDoorTc
import Derived.Test.YtgakeclocbfnpaaDoorTd
import Derived.Test.YtgakeclocbfnpaaDoorTe
import Derived.Test.YtgakeclocbfnpaaDoorTf
import Derived.Test.YtgakeclocbfnpaaDoorTg
import Derived.Test.YtgakeclocbfnpaaDoorTh
import Derived.Test.YtgakeclocbfnpaaDoorTi
import Derived.Test.YtgakeclocbfnpaaDoorTja
import Derived.Test.YtgakeclocbfnpaaDoorTj
import Derived.Test.YtgakeclocbfnpaaDoorTka
import Derived.Test.YtgakeclocbfnpaaDoorTkb
import Derived.Test.YtgakeclocbfnpaaDoorTk
import Derived.Test.YtgakeclocbfnpaaDoorTl
import Derived.Test.YtgakeclocbfnpaaDoorTm
import Derived.Test.YtgakeclocbfnpaaDoorTn
import Derived.Test.YtgakeclocbfnpaaDoorTo
import Derived.Test.YtgakeclocbfnpaaDoorTp
import Derived.Test.YtgakeclocbfnpaaDoorTq
import Derived.Test.YtgakeclocbfnpaaDoorTr
import Derived.WalkKit
import Derived.Outline
import Derived.WalkLawsBesides
import Derived.Deep.QuietTactic
import Derived.BigQuiet
import Derived.Lib.Hide
import Derived.Handy
import Derived.Deep.RegionHeld3
import Derived.Deep.DrawnRows
import Derived.KernelRfl
import Derived.Sort.Walk0
import Derived.Great.Walk
import Derived.Test.YtgakeclocbfnpaaDoorOwn
namespace Go.Proofs.YtgakeclocbfnpaaDoor.T
open Go Go.RowKit Mem Own
set_option maxRecDepth 100000
set_option maxHeartbeats 1000000
set_option linter.unusedVariables false
set_option linter.unusedSimpArgs false

theorem names_apart : ∀ k, k < 47 → ∀ m, m < k → (sp m).name.data ≠ (sp k).name.data := by decide +kernel
theorem names_ne {k m : Nat} (hk : k < 47) (hm : m < k) : ((sp m).name.toList == (sp k).name.toList) = false := by
  rw [beq_eq_false_iff_ne]
  intro e
  rw [ByteArray.toList_eq, ByteArray.toList_eq] at e
  exact names_apart k hk m hm (Array.toList_inj.1 e)
theorem below_drewN' {B : Nat} {w w' : World} (h : Below B w w') (q : Nat) : Below B w (w'.drewN q) := Go.below_drewN h q

theorem tab_at (b : Nat) (w : World) (h : w.heap.size = b) : Tab (w.alloc (.cells cells 25)) b := by subst h; exact tab_new w
/-- TableAll -/
theorem tableAll_is (i : Int) (s : ByteArray) (w : World) (hT : U8 w) :
    Calls Tryd.prog 3 #[.int .i64 i, .string s] w fun e w' => e = .returned (.bool true) ∧ Below w.heap.size w w' := by
  have HT := Lib.hid hT
  clear hT
  go_enter Tryd.func3, Tryd.ntmps3
  have hcase : (0 ≤ i ∧ i < 47 ∧ (∃ v, cells[i.toNat * 7]? = some v)) ∨ (0 ≤ i ∧ ¬ i < 47) ∨ ¬ 0 ≤ i := by
    by_cases h0 : 0 ≤ i
    · by_cases h1 : i < 47
      · left; exact ⟨h0, h1, _, (cells_at (k := i.toNat) (by omega)).1⟩
      · right; left; exact ⟨h0, h1⟩
    · right; right; exact h0
  rcases hcase with ⟨h0, h1, v, c0⟩ | ⟨h0, h1⟩ | h0
  all_goals
    go_upto_region 4 with (go_at_call 9; refine (all9_is _).mono ?_; rintro e w1 ⟨rfl, rfl⟩)
    go_cut [5] (fun s5 wx => ∃ b5 : Nat, s5 = .slice (some ⟨b5, 0, none⟩) 47 47 ∧ RowKit.Hid (Tab wx b5) ∧ RowKit.Hid (Below w.heap.size w wx))
    case first =>
      go_wp2_with (go_at_call 9; refine (all9_is _).mono ?_; rintro e w1 ⟨rfl, rfl⟩)
      go_meet
      exact ⟨_, rfl, Lib.hid (tab_at _ _ (by simp)), Lib.hid (by ((repeat (first | exact Below.refl _ _ | (refine Below.drew ?_) | (refine Go.below_drewN ?_ _) | (refine Below.alloc ?_ (by first | (simp; done) | omega | (simp; omega)) _) | (refine Below.setCell ?_ (by first | (simp; done) | omega | (simp; omega)) _) | (refine Below.trans ?_ (Below.mono (by assumption) (by first | (simp; done) | omega | (simp; omega)))))); done))⟩
    case rest =>
      obtain ⟨b5, rfl, HT5, HB5⟩ := hcut
      go_upto_region 5 with fail
      go_cut [6] (fun s6 wx => ∃ b6 : Nat, s6 = .slice (some ⟨b6, 0, none⟩) 47 47 ∧ RowKit.Hid (Tab wx b6) ∧ RowKit.Hid (Tab wx b5) ∧ RowKit.Hid (Below w.heap.size w wx))
      case first =>
        go_wp2_with (go_at_call 10; refine (rall_is _).mono ?_; rintro e w1 ⟨rfl, rfl⟩)
        go_meet
        exact ⟨_, rfl, Lib.hid (tab_new _), Lib.hid (HT5.out.below ((Below.refl _ _).alloc (Nat.le_refl _) _)), Lib.hid (HB5.out.alloc HB5.out.size _)⟩
      case rest =>
        obtain ⟨b6, rfl, HT6, HT56, HB6⟩ := hcut
        go_wp2_with fail
        go_loopw [32] (fun x wr => ∃ k : Nat, k ≤ 47 ∧ x = .int .i64 k ∧ RowKit.Hid (Below wc.heap.size wc wr)) (fun x _ => 47 - (intOf x).toNat)
        case atStart => exact ⟨0, Nat.zero_le _, rfl, Lib.hid (Below.refl _ _)⟩
        case round =>
          obtain ⟨k, hk, rfl, HW⟩ := hrel
          by_cases hlt : k < 47
          · obtain ⟨c0, c1, c2, c3, c4, c5, c6⟩ := HT56.out.below HW.out
            replace c0 := c0 k hlt; replace c1 := c1 k hlt; replace c2 := c2 k hlt; replace c3 := c3 k hlt; replace c4 := c4 k hlt; replace c5 := c5 k hlt; replace c6 := c6 k hlt
            obtain ⟨d0, d1, d2, d3, d4, d5, d6⟩ := HT6.out.below HW.out
            replace d0 := d0 k hlt; replace d1 := d1 k hlt; replace d2 := d2 k hlt; replace d3 := d3 k hlt; replace d4 := d4 k hlt; replace d5 := d5 k hlt; replace d6 := d6 k hlt
            go_wp2
            go_quiet (fail)
            go_wp2
            obtain ⟨wo, rfl⟩ : ∃ wo : World, wo = wr := ⟨_, rfl⟩
            clear c0 c1 c2 c3 c4 c5 c6 d0 d1 d2 d3 d4 d5 d6
            go_loopw [45] (fun y wq => ∃ m : Nat, m ≤ k ∧ y = .int .i64 m ∧ RowKit.Hid (Below wc.heap.size wc wq)) (fun y _ => k - (intOf y).toNat)
            case atStart => exact ⟨0, Nat.zero_le _, rfl, Lib.hid (Go.below_drewN HW.out _)⟩
            case round =>
              obtain ⟨m, hm, rfl, HQ⟩ := hrel
              by_cases hmk : m < k
              · have hne := names_ne hlt hmk
                have c0 := (HT56.out.below HQ.out).c0 k hlt
                have d0 := (HT56.out.below HQ.out).c0 m (by omega)
                go_wp2
                go_quiet (fail)
                go_wp2
                exact ⟨⟨m + 1, by omega, by go_num, Lib.hid (Go.below_drewN HQ.out _)⟩, by simp [intOf]; omega⟩
              · go_wp2
                exact ⟨⟨k + 1, by omega, by go_num, HQ⟩, by simp [intOf]; omega⟩
          · go_wp2_with (go_at_call 11; refine Calls.mono (alive_is _ (HT.out.below (HB6.out.trans (HW.out.mono HB6.out.size)))) ?_; rintro e w3 ⟨rfl, hb3⟩)
            go_ret
            exact ⟨rfl, (HB6.out.trans (HW.out.mono HB6.out.size)).trans (hb3.mono (Nat.le_trans HB6.out.size HW.out.size))⟩
end Go.Proofs.YtgakeclocbfnpaaDoor.T
