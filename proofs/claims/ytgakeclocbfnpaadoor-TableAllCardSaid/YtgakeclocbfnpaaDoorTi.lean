import Derived.Test.YtgakeclocbfnpaaDoorProg
import Derived.Test.YtgakeclocbfnpaaDoorMem
import Derived.Test.YtgakeclocbfnpaaDoorTa
import Derived.Test.YtgakeclocbfnpaaDoorTa2
import Derived.Test.YtgakeclocbfnpaaDoorTb
import Derived.Test.YtgakeclocbfnpaaDoorTc
import Derived.Test.YtgakeclocbfnpaaDoorTd
import Derived.Test.YtgakeclocbfnpaaDoorTe
import Derived.Test.YtgakeclocbfnpaaDoorTf
import Derived.Test.YtgakeclocbfnpaaDoorShelf
import Derived.Test.YtgakeclocbfnpaaDoorTg
import Derived.Test.YtgakeclocbfnpaaDoorTh
import Derived.WalkKit
import Derived.Outline
import Derived.WalkLawsBesides
import Derived.Deep.QuietTactic
import Derived.BigQuiet
import Derived.Lib.Hide
import Derived.Handy
import Derived.Deep.RegionHeld3
import Derived.Deep.DrawnRows
import Derived.KernelRfl
import Derived.Great.Walk
namespace Go.Proofs.YtgakeclocbfnpaaDoor.T
open Go Go.RowKit Mem
set_option maxRecDepth 100000
set_option maxHeartbeats 8000000
set_option linter.unusedVariables false
set_option linter.unusedSimpArgs false

def idx (s : ByteArray) : Int := if fk s < 47 then (fk s : Int) else -1
theorem idx_at {s : ByteArray} {k : Nat} (h : fk s = k) (hk : k < 47) : idx s = k := by unfold idx; rw [h, if_pos hk]
theorem idx_none {s : ByteArray} (h : fk s = 47) : idx s = -1 := by unfold idx; rw [h]; rfl
/-- slices.IndexFunc over the table, by name -/
theorem index_is (b : Nat) (s : ByteArray) (a : Addr) (w : World) (hs : s.size ≤ 10) (hT : U8 w) (ha : w.cell? a = some (.string s)) (hb : Tab w b) :
    Calls Tryd.prog 20 #[.slice (some ⟨b, 0, none⟩) 47 47, .func (.func 21) #[] #[.pointer (some a)]] w fun e w' => e = .returned (.int .i64 (idx s)) ∧ Below w.heap.size w w' := by
  go_enter Tryd.func20, Tryd.ntmps20
  have HT := Lib.hid hT; have HA := Lib.hid ha; have HB := Lib.hid hb
  clear hT ha hb
  go_wp2_with fail
  go_loopw [8] (fun x wr => ∃ k : Nat, k ≤ 47 ∧ x = .int .i64 k ∧ Below w.heap.size w wr ∧ (∀ j, j < k → up (sp j).name ≠ up s)) (fun x _ => 47 - (intOf x).toNat)
  case atStart => exact ⟨0, Nat.zero_le _, rfl, Below.refl _ _, fun j h => by omega⟩
  case round =>
    obtain ⟨k, hk, rfl, hbw, hno⟩ := hrel
    have HN := Lib.hid hno
    clear hno
    by_cases hlt : k < 47
    · obtain ⟨c0, c1, c2, c3, c4, c5, c6⟩ := HB.out.below hbw
      replace c0 := c0 k hlt; replace c1 := c1 k hlt; replace c2 := c2 k hlt; replace c3 := c3 k hlt; replace c4 := c4 k hlt; replace c5 := c5 k hlt; replace c6 := c6 k hlt
      have HW := Lib.hid hbw
      clear hbw
      by_cases hu : up (sp k).name = up s
      · have HU := Lib.hid hu
        have HD := Lib.hid (decide_eq_true hu)
        clear hu
        go_wp2_with (go_at_call 21; refine (same_name hlt s a _ hs (HT.out.below HW.out) (cell_below HW.out HA.out)).mono ?_; rintro e w1 ⟨rfl, hb1⟩; rw [HD.out])
        go_ret
        exact ⟨ret_int (idx_at (fk_at hlt HN.out HU.out) hlt).symm, HW.out.trans (hb1.mono HW.out.size)⟩
      · have HU := Lib.hid hu
        have HD := Lib.hid (decide_eq_false hu)
        clear hu
        go_wp2_with (go_at_call 21; refine (same_name hlt s a _ hs (HT.out.below HW.out) (cell_below HW.out HA.out)).mono ?_; rintro e w1 ⟨rfl, hb1⟩; rw [HD.out])
        refine ⟨⟨k + 1, by omega, by go_num, HW.out.trans (hb1.mono HW.out.size), fun j hj => ?_⟩, by simp [intOf]; omega⟩
        rcases Nat.lt_succ_iff_lt_or_eq.1 hj with h | h
        · exact HN.out j h
        · subst h; exact HU.out
    · have hf := Lib.hid (fk_none (s := s) fun j hj => HN.out j (by omega))
      have HW := Lib.hid hbw
      clear hbw
      go_wp2
      go_ret
      exact ⟨ret_int (idx_none hf.out).symm, HW.out⟩
end Go.Proofs.YtgakeclocbfnpaaDoor.T
