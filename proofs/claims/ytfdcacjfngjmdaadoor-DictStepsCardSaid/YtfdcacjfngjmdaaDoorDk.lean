import Derived.Deep.DeepCutAuto
import Derived.Laws.OwnMore
import Derived.OwnWalk
import Derived.Lib.AppendStr
import Derived.Lib.SliceRun
import Derived.Lib.SmallJoins
import Derived.IntWalk
import Derived.WalkMore
import Derived.Lib.OthersKept
import Derived.Deep.LoopGhost
import Derived.Deep.RegionLaw
import Derived.Deep.AppendLies
import Derived.Test.YtfdcacjfngjmdaaDoorProg
import Derived.Test.YtfdcacjfngjmdaaDoorMem
import Derived.Test.YtfdcacjfngjmdaaDoorBlk
import Derived.Test.YtfdcacjfngjmdaaDoorAp
import Derived.Test.YtfdcacjfngjmdaaDoorDj
import Derived.WalkKit
import Derived.Outline
import Derived.WalkLawsBesides
import Derived.Deep.QuietTactic
import Derived.BigQuiet
import Derived.Lib.Hide
import Derived.Handy
import Derived.Deep.RegionHeld3
import Derived.Deep.DrawnRows
import Derived.KernelRfl
import Derived.Great.Walk
import Derived.Test.YtfdcacjfngjmdaaDoorOwn
namespace Go.Proofs.YtfdcacjfngjmdaaDoor.T
open Go Go.RowKit Go.Sort Mem Own
set_option maxRecDepth 100000
set_option maxHeartbeats 1000000
set_option linter.unusedVariables false
set_option linter.unusedSimpArgs false

/-- The empty dict. -/
def Dm.new : Dm := ⟨List.replicate 4 [], [], 0, 0⟩
theorem new_mem {w : World} {B D TR TI b g : Nat} (ow : Ow) (hB : B ≤ w.heap.size) {w' : World} (hg : w.heap.size ≤ g) (hgb : g ≠ b) (hb : w.heap.size ≤ b) (hbl : Below w.heap.size w w')
    (h1 : w'.heap[b]? = some (.cells (List.replicate 4 (.slice none 0 0)).toArray TR (0, 0))) (h2 : w'.heap[g]? = some (.cells #[.slice (some ⟨b, 0, none⟩) 4 4, .slice none 0 0, .int .i64 0, .int .i64 0] D (0, 0))) :
    ∃ ow', DR w' B D TR TI g ow' Dm.new b 0 (List.replicate 4 (.slice none 0 0)) [] ∧ Chg B g ow ow' w w' := by
  refine ⟨fun q => if q < w.heap.size then ow q else if q = g then (g + 1, 0, 0) else (g + 1, 1, 0), ⟨by omega, ?_, h2, ⟨by omega, ?_, h1, rfl, ?_⟩, fun h => absurd rfl h⟩, ⟨hbl.mono hB, ?_, fun q hq _ => hbl.block q hq⟩⟩
  · (try dsimp only); rw [if_neg (by omega), if_pos rfl]
  · (try dsimp only); rw [if_neg (by omega), if_neg (fun e => hgb e.symm)]
  · intro k x hx
    unfold Dm.new at hx
    dsimp only at hx
    rw [List.getElem?_replicate] at hx
    split at hx
    · injection hx with hx; subst hx
      rename_i hk
      exact ⟨.slice none 0 0, by rw [List.getElem?_replicate, if_pos hk], World.ownsRow_nil _ _ _ _, fun q hq => by simp [Value.ownBlock] at hq⟩
    · cases hx
  · intro q hq; (try dsimp only); rw [if_pos hq]
/-- dict.New -/
theorem newS_is (B : Nat) (ow : Ow) (w : World) (hB : B ≤ w.heap.size) :
    Calls Tryd.prog 9 #[] w fun e w' => ∃ g b ow', e = .returned (.pointer (some ⟨g, 0, none⟩)) ∧ w.heap.size ≤ g ∧ DR w' B 64 70 69 g ow' Dm.new b 0 (List.replicate 4 (.slice none 0 0)) [] ∧ Chg B g ow ow' w w' := by
  have hmk : ∀ x : World, (Instr.makeSlice 62 (.int .i64 4) (.int .i64 4)).run Tryd.prog x = .ok (.slice (some ⟨x.heap.size, 0, none⟩) 4 4) (x.alloc (.cells (List.replicate 4 (.slice none 0 0)).toArray 70)) := fun x => makeS 4 (by decide) x
  have HFIN := Lib.hid (fun (w' : World) (hbl : Below w.heap.size w w') (h1 : w'.heap[w.heap.size]? = some (.cells (List.replicate 4 (.slice none 0 0)).toArray 70 (0, 0))) (h2 : w'.heap[w.heap.size + 1]? = some (.cells #[.slice (some ⟨w.heap.size, 0, none⟩) 4 4, .slice none 0 0, .int .i64 0, .int .i64 0] 64 (0, 0))) => new_mem (D := 64) (TR := 70) (TI := 69) ow hB (b := w.heap.size) (g := w.heap.size + 1) (by omega) (by omega) (Nat.le_refl _) hbl h1 h2)
  have HN2 := Lib.hid (new2 w (List.replicate 4 (.slice none 0 0)).toArray #[.slice (some ⟨w.heap.size, 0, none⟩) 4 4, .slice none 0 0, .int .i64 0, .int .i64 0] 70 64)
  go_enter Tryd.func9, Tryd.ntmps9
  go_wp2
  go_ret
  obtain ⟨ow', h1, h2⟩ := HFIN.out _ (by ((repeat (first | exact Below.refl _ _ | (refine Below.drew ?_) | (refine Go.below_drewN ?_ _) | (refine Below.alloc ?_ (by first | (simp; done) | omega | (simp; omega)) _) | (refine Below.setCell ?_ (by first | (simp; done) | omega | (simp; omega)) _) | (refine Below.trans ?_ (Below.mono (by assumption) (by first | (simp; done) | omega | (simp; omega)))))); done)) (HN2.out.1) (HN2.out.2.1)
  exact ⟨_, _, ow', rfl, by omega, h1, h2⟩
/-- dict.New -/
theorem newI_is (B : Nat) (ow : Ow) (w : World) (hB : B ≤ w.heap.size) :
    Calls Tryd.prog 13 #[] w fun e w' => ∃ g b ow', e = .returned (.pointer (some ⟨g, 0, none⟩)) ∧ w.heap.size ≤ g ∧ DR w' B 75 81 80 g ow' Dm.new b 0 (List.replicate 4 (.slice none 0 0)) [] ∧ Chg B g ow ow' w w' := by
  have hmk : ∀ x : World, (Instr.makeSlice 73 (.int .i64 4) (.int .i64 4)).run Tryd.prog x = .ok (.slice (some ⟨x.heap.size, 0, none⟩) 4 4) (x.alloc (.cells (List.replicate 4 (.slice none 0 0)).toArray 81)) := fun x => makeI 4 (by decide) x
  have HFIN := Lib.hid (fun (w' : World) (hbl : Below w.heap.size w w') (h1 : w'.heap[w.heap.size]? = some (.cells (List.replicate 4 (.slice none 0 0)).toArray 81 (0, 0))) (h2 : w'.heap[w.heap.size + 1]? = some (.cells #[.slice (some ⟨w.heap.size, 0, none⟩) 4 4, .slice none 0 0, .int .i64 0, .int .i64 0] 75 (0, 0))) => new_mem (D := 75) (TR := 81) (TI := 80) ow hB (b := w.heap.size) (g := w.heap.size + 1) (by omega) (by omega) (Nat.le_refl _) hbl h1 h2)
  have HN2 := Lib.hid (new2 w (List.replicate 4 (.slice none 0 0)).toArray #[.slice (some ⟨w.heap.size, 0, none⟩) 4 4, .slice none 0 0, .int .i64 0, .int .i64 0] 81 75)
  go_enter Tryd.func13, Tryd.ntmps13
  go_wp2
  go_ret
  obtain ⟨ow', h1, h2⟩ := HFIN.out _ (by ((repeat (first | exact Below.refl _ _ | (refine Below.drew ?_) | (refine Go.below_drewN ?_ _) | (refine Below.alloc ?_ (by first | (simp; done) | omega | (simp; omega)) _) | (refine Below.setCell ?_ (by first | (simp; done) | omega | (simp; omega)) _) | (refine Below.trans ?_ (Below.mono (by assumption) (by first | (simp; done) | omega | (simp; omega)))))); done)) (HN2.out.1) (HN2.out.2.1)
  exact ⟨_, _, ow', rfl, by omega, h1, h2⟩
end Go.Proofs.YtfdcacjfngjmdaaDoor.T
