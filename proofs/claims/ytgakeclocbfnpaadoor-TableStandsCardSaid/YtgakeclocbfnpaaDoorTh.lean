import Derived.Test.YtgakeclocbfnpaaDoorProg
import Derived.Test.YtgakeclocbfnpaaDoorMem
import Derived.Test.YtgakeclocbfnpaaDoorTa
import Derived.Test.YtgakeclocbfnpaaDoorTa2
import Derived.Test.YtgakeclocbfnpaaDoorTb
import Derived.Test.YtgakeclocbfnpaaDoorTc
import Derived.Test.YtgakeclocbfnpaaDoorTd
import Derived.Test.YtgakeclocbfnpaaDoorTe
import Derived.Test.YtgakeclocbfnpaaDoorTf
import Derived.Test.YtgakeclocbfnpaaDoorShelf
import Derived.Test.YtgakeclocbfnpaaDoorTg
import Derived.WalkKit
import Derived.Outline
import Derived.WalkLawsBesides
import Derived.Deep.QuietTactic
import Derived.BigQuiet
import Derived.Lib.Hide
import Derived.Handy
import Derived.Deep.RegionHeld3
import Derived.Deep.DrawnRows
import Derived.KernelRfl
import Derived.Great.Walk
namespace Go.Proofs.YtgakeclocbfnpaaDoor.T
open Go Go.RowKit Mem
set_option maxRecDepth 100000
set_option maxHeartbeats 8000000
set_option linter.unusedVariables false
set_option linter.unusedSimpArgs false

theorem name_eq_true {k : Nat} (hk : k < 47) {s : ByteArray} (h : up (sp k).name = up s) : ((sp k).name.toList == (upB s).toList) = true := by
  rw [(upper_alike hk s).2 h]; simp
theorem name_eq_false {k : Nat} (hk : k < 47) {s : ByteArray} (h : up (sp k).name ≠ up s) : ((sp k).name.toList == (upB s).toList) = false := by
  rw [beq_eq_false_iff_ne]
  intro e
  refine h ((upper_alike hk s).1 ?_)
  rw [ByteArray.toList_eq, ByteArray.toList_eq] at e
  apply ByteArray.ext; exact Array.toList_inj.1 e
/-- table.Find$1 -/
theorem same_name {k : Nat} (hk : k < 47) (s : ByteArray) (a : Addr) (w : World) (hs : s.size ≤ 10) (hT : U8 w) (ha : w.cell? a = some (.string s)) :
    Calls Tryd.prog 21 #[spV (sp k), .pointer (some a)] w fun e w' => e = .returned (.bool (decide (up (sp k).name = up s))) ∧ Below w.heap.size w w' := by
  have hn := fun o => cell_alloc ha o
  obtain ⟨r, hr⟩ : ∃ r, r = decide (up (sp k).name = up s) := ⟨_, rfl⟩
  have hE : ((sp k).name.toList == (upB s).toList) = r := by
    rw [hr]
    by_cases hu : up (sp k).name = up s
    · rw [name_eq_true hk hu, decide_eq_true hu]
    · rw [name_eq_false hk hu, decide_eq_false hu]
  rw [← hr]
  have HR := Lib.hid hr
  have hab := lt_of_cell ha
  have HT := Lib.hid hT
  clear hr hT
  go_enter Tryd.func21, Tryd.ntmps21
  go_wp2
  go_region_held3 (fun w' => w'.cell? ⟨w.heap.size, 0, none⟩ = some (.string (sp k).name) ∧ w'.cell? a = some (.string s) ∧ Below w.heap.size w w')
    (((refine ⟨?_, ?_, ?_⟩ <;> (first | ((repeat (first | exact Below.refl _ _ | (refine Below.drew ?_) | (refine Go.below_drewN ?_ _) | (refine Below.alloc ?_ (by first | (simp; done) | omega | (simp; omega)) _) | (refine Below.setCell ?_ (by first | (simp; done) | omega | (simp; omega)) _) | (refine Below.trans ?_ (Below.mono (by assumption) (by first | (simp; done) | omega | (simp; omega)))))); done) | (simp [go_sem]; done) | (rw [hb1.cell (by first | (simp; done) | omega | (simp; omega))]; (first | (simp only [*]; done) | (simp [go_sem]; done) | (simp [*, go_sem]; done))) | (simp [*, go_sem]; done)))))
    (first
      | (go_at_call 22; refine Calls.mono (upper_is s _ hs (HT.out.below ?_)) ?_; (focus ((repeat (first | exact Below.refl _ _ | (refine Below.drew ?_) | (refine Go.below_drewN ?_ _) | (refine Below.alloc ?_ (by first | (simp; done) | omega | (simp; omega)) _) | (refine Below.setCell ?_ (by first | (simp; done) | omega | (simp; omega)) _) | (refine Below.trans ?_ (Below.mono (by assumption) (by first | (simp; done) | omega | (simp; omega)))))); done)); rintro e w1 ⟨rfl, hb1⟩; have hz1_0 : w.heap.size < w1.heap.size := (by have := hb1.size; (try simp at this); omega)))
  all_goals
    go_wp2
    go_ret
    exact ⟨rfl, (by ((repeat (first | exact Below.refl _ _ | (refine Below.drew ?_) | (refine Go.below_drewN ?_ _) | (refine Below.alloc ?_ (by first | (simp; done) | omega | (simp; omega)) _) | (refine Below.setCell ?_ (by first | (simp; done) | omega | (simp; omega)) _) | (refine Below.trans ?_ (Below.mono (by assumption) (by first | (simp; done) | omega | (simp; omega)))))); done))⟩
end Go.Proofs.YtgakeclocbfnpaaDoor.T
