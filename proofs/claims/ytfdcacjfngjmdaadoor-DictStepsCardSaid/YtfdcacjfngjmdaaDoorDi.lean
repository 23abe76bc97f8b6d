import Derived.Deep.DeepCutAuto
import Derived.Laws.OwnMore
import Derived.OwnWalk
import Derived.Lib.AppendStr
import Derived.Lib.SliceRun
import Derived.Lib.SmallJoins
import Derived.IntWalk
import Derived.WalkMore
import Derived.Lib.OthersKept
import Derived.Deep.LoopGhost
import Derived.Deep.RegionLaw
import Derived.Deep.AppendLies
import Derived.Test.YtfdcacjfngjmdaaDoorProg
import Derived.Test.YtfdcacjfngjmdaaDoorMem
import Derived.Test.YtfdcacjfngjmdaaDoorBlk
import Derived.Test.YtfdcacjfngjmdaaDoorAp
import Derived.Test.YtfdcacjfngjmdaaDoorDh
import Derived.WalkKit
import Derived.Outline
import Derived.WalkLawsBesides
import Derived.Deep.QuietTactic
import Derived.BigQuiet
import Derived.Lib.Hide
import Derived.Handy
import Derived.Deep.RegionHeld3
import Derived.Deep.DrawnRows
import Derived.KernelRfl
import Derived.Great.Walk
import Derived.Test.YtfdcacjfngjmdaaDoorOwn
namespace Go.Proofs.YtfdcacjfngjmdaaDoor.T
open Go Go.RowKit Go.Sort Mem Own
set_option maxRecDepth 100000
set_option maxHeartbeats 1000000
set_option linter.unusedVariables false
set_option linter.unusedSimpArgs false

theorem made_nil (n : Nat) : madeCells (Value.slice none 0 0).cells n = (List.replicate n (Value.slice none 0 0)).toArray := by
  rw [show (Value.slice none 0 0).cells = #[Value.slice none 0 0] from rfl]
  apply Array.toList_inj.1
  apply List.ext_getElem?
  intro j
  by_cases hj : j < n <;> simp [madeCells, hj, List.getElem?_replicate, Nat.mod_one]
theorem infoT70 : (Tryd.prog.info? 70).map (fun i => (i.zero, i.size, i.bytes)) = some (some (.slice none 0 0), 1, 24) := by kernel_rfl
theorem makeS (n : Nat) (hn : n ≤ 100000000000) (x : World) : (Instr.makeSlice 62 (.int .i64 (n : Int)) (.int .i64 (n : Int))).run Tryd.prog x = .ok (.slice (some ⟨x.heap.size, 0, none⟩) n n) (x.alloc (.cells (List.replicate n (.slice none 0 0)).toArray 70)) := by
  obtain ⟨i0, hi0, hz0, hz1, hz2⟩ := info_parts infoT70
  have := run_make (P := Tryd.prog) x 62 70 i0 _ Tryd.underlying62 hi0 hz0 .i64 .i64 (n : Int) (n : Int) (by omega) (by omega) (by rw [hz2]; omega) (by omega)
  rw [this, hz1, Int.toNat_natCast, Nat.mul_one, made_nil]
/-- dict.begin -/
theorem beginS_is (B g gn go n : Nat) (ow : Ow) (m : Dm) (nv ov : List Value) (w : World) (h : DR w B 64 70 69 g ow m gn go nv ov) (hold : m.old = []) (hn0 : 0 < m.now.length) (hn : n ≤ 100000000000) :
    Calls Tryd.prog 33 #[.pointer (some ⟨g, 0, none⟩), .int .i64 (n : Int)] w fun e w' => e = .returned (.tuple #[]) ∧ ∃ ow' bn, DR w' B 64 70 69 g ow' { m with now := List.replicate n [], old := m.now } bn gn (List.replicate n (.slice none 0 0)) nv ∧ Chg B g ow ow' w w' := by
  obtain ⟨q0, q1, q2, q3⟩ := cells4 h.blk
  obtain ⟨f0, f1, f2, f3⟩ := frees4 h.blk
  have hmk := makeS n hn
  have HD := Lib.hid h
  have hg := lt_of_blk h.blk
  have hBg := h.base
  rw [hold] at q1
  have q1' : w.cell? ⟨g, 1, none⟩ = some (.slice none 0 0) := q1
  have HO := Lib.hid hold
  obtain ⟨N, hN⟩ : ∃ N, N = m.now.length := ⟨_, rfl⟩
  rw [← hN] at q0
  have HFIN : RowKit.Hid (∃ ow' bn, DR (((w.setCell ⟨g, 1, none⟩ (.slice (some ⟨gn, 0, none⟩) N N)).setCell ⟨g, 0, none⟩ (.slice (some ⟨w.heap.size, 0, none⟩) n n)).alloc (.cells (Array.replicate n (.slice none 0 0)) 70)).drew B 64 70 69 g ow' { m with now := List.replicate n [], old := m.now } bn gn (List.replicate n (.slice none 0 0)) nv ∧
      Chg B g ow ow' w (((w.setCell ⟨g, 1, none⟩ (.slice (some ⟨gn, 0, none⟩) N N)).setCell ⟨g, 0, none⟩ (.slice (some ⟨w.heap.size, 0, none⟩) n n)).alloc (.cells (Array.replicate n (.slice none 0 0)) 70)).drew) := by
    have hz : ((w.setCell ⟨g, 1, none⟩ (.slice (some ⟨gn, 0, none⟩) N N)).setCell ⟨g, 0, none⟩ (.slice (some ⟨w.heap.size, 0, none⟩) n n)).heap.size = w.heap.size := by rw [set_sz, set_sz]
    have h1 := (new1 ((w.setCell ⟨g, 1, none⟩ (.slice (some ⟨gn, 0, none⟩) N N)).setCell ⟨g, 0, none⟩ (.slice (some ⟨w.heap.size, 0, none⟩) n n)) (Array.replicate n (.slice none 0 0)) 70)
    rw [hz] at h1
    obtain ⟨ow', h2⟩ := h.begin n w.heap.size hold hn0 (Nat.le_refl _) (by omega)
      (w1 := (((w.setCell ⟨g, 1, none⟩ (.slice (some ⟨gn, 0, none⟩) N N)).setCell ⟨g, 0, none⟩ (.slice (some ⟨w.heap.size, 0, none⟩) n n)).alloc (.cells (Array.replicate n (.slice none 0 0)) 70)).drew)
      (fun b hb hne => by
        refine (h1.2.block b hb).trans ?_
        rw [heap_set _ _ _ _ _ hne, heap_set _ _ _ _ _ hne])
      (Below.drew (Below.alloc (Below.setCell (p := ⟨g, 0, none⟩) (Below.setCell (p := ⟨g, 1, none⟩) (Below.refl _ _) hBg _) hBg _) (by rw [hz]; omega) _))
      (by rw [← List.toArray_replicate] at h1; exact h1.1)
      (by
        have := blk_new (blk_set (i := 0) (blk_set (i := 1) h.blk (.slice (some ⟨gn, 0, none⟩) N N)) (.slice (some ⟨w.heap.size, 0, none⟩) n n)) (.cells (Array.replicate n (.slice none 0 0)) 70)
        rw [← hN]; exact this)
    exact ⟨ow', _, h2⟩
  clear hN
  clear h q1 hold q2 q3 f2 f3
  go_enter Tryd.func33, Tryd.ntmps33
  go_wp2_with fail
  go_region_law (fail)
  all_goals
    refine bodyPost_end (results_none rfl _ _ _) rfl ?_
    exact ⟨rfl, HFIN.out⟩
theorem infoT81 : (Tryd.prog.info? 81).map (fun i => (i.zero, i.size, i.bytes)) = some (some (.slice none 0 0), 1, 24) := by kernel_rfl
theorem makeI (n : Nat) (hn : n ≤ 100000000000) (x : World) : (Instr.makeSlice 73 (.int .i64 (n : Int)) (.int .i64 (n : Int))).run Tryd.prog x = .ok (.slice (some ⟨x.heap.size, 0, none⟩) n n) (x.alloc (.cells (List.replicate n (.slice none 0 0)).toArray 81)) := by
  obtain ⟨i0, hi0, hz0, hz1, hz2⟩ := info_parts infoT81
  have := run_make (P := Tryd.prog) x 73 81 i0 _ Tryd.underlying73 hi0 hz0 .i64 .i64 (n : Int) (n : Int) (by omega) (by omega) (by rw [hz2]; omega) (by omega)
  rw [this, hz1, Int.toNat_natCast, Nat.mul_one, made_nil]
/-- dict.begin -/
theorem beginI_is (B g gn go n : Nat) (ow : Ow) (m : Dm) (nv ov : List Value) (w : World) (h : DR w B 75 81 80 g ow m gn go nv ov) (hold : m.old = []) (hn0 : 0 < m.now.length) (hn : n ≤ 100000000000) :
    Calls Tryd.prog 35 #[.pointer (some ⟨g, 0, none⟩), .int .i64 (n : Int)] w fun e w' => e = .returned (.tuple #[]) ∧ ∃ ow' bn, DR w' B 75 81 80 g ow' { m with now := List.replicate n [], old := m.now } bn gn (List.replicate n (.slice none 0 0)) nv ∧ Chg B g ow ow' w w' := by
  obtain ⟨q0, q1, q2, q3⟩ := cells4 h.blk
  obtain ⟨f0, f1, f2, f3⟩ := frees4 h.blk
  have hmk := makeI n hn
  have HD := Lib.hid h
  have hg := lt_of_blk h.blk
  have hBg := h.base
  rw [hold] at q1
  have q1' : w.cell? ⟨g, 1, none⟩ = some (.slice none 0 0) := q1
  have HO := Lib.hid hold
  obtain ⟨N, hN⟩ : ∃ N, N = m.now.length := ⟨_, rfl⟩
  rw [← hN] at q0
  have HFIN : RowKit.Hid (∃ ow' bn, DR (((w.setCell ⟨g, 1, none⟩ (.slice (some ⟨gn, 0, none⟩) N N)).setCell ⟨g, 0, none⟩ (.slice (some ⟨w.heap.size, 0, none⟩) n n)).alloc (.cells (Array.replicate n (.slice none 0 0)) 81)).drew B 75 81 80 g ow' { m with now := List.replicate n [], old := m.now } bn gn (List.replicate n (.slice none 0 0)) nv ∧
      Chg B g ow ow' w (((w.setCell ⟨g, 1, none⟩ (.slice (some ⟨gn, 0, none⟩) N N)).setCell ⟨g, 0, none⟩ (.slice (some ⟨w.heap.size, 0, none⟩) n n)).alloc (.cells (Array.replicate n (.slice none 0 0)) 81)).drew) := by
    have hz : ((w.setCell ⟨g, 1, none⟩ (.slice (some ⟨gn, 0, none⟩) N N)).setCell ⟨g, 0, none⟩ (.slice (some ⟨w.heap.size, 0, none⟩) n n)).heap.size = w.heap.size := by rw [set_sz, set_sz]
    have h1 := (new1 ((w.setCell ⟨g, 1, none⟩ (.slice (some ⟨gn, 0, none⟩) N N)).setCell ⟨g, 0, none⟩ (.slice (some ⟨w.heap.size, 0, none⟩) n n)) (Array.replicate n (.slice none 0 0)) 81)
    rw [hz] at h1
    obtain ⟨ow', h2⟩ := h.begin n w.heap.size hold hn0 (Nat.le_refl _) (by omega)
      (w1 := (((w.setCell ⟨g, 1, none⟩ (.slice (some ⟨gn, 0, none⟩) N N)).setCell ⟨g, 0, none⟩ (.slice (some ⟨w.heap.size, 0, none⟩) n n)).alloc (.cells (Array.replicate n (.slice none 0 0)) 81)).drew)
      (fun b hb hne => by
        refine (h1.2.block b hb).trans ?_
        rw [heap_set _ _ _ _ _ hne, heap_set _ _ _ _ _ hne])
      (Below.drew (Below.alloc (Below.setCell (p := ⟨g, 0, none⟩) (Below.setCell (p := ⟨g, 1, none⟩) (Below.refl _ _) hBg _) hBg _) (by rw [hz]; omega) _))
      (by rw [← List.toArray_replicate] at h1; exact h1.1)
      (by
        have := blk_new (blk_set (i := 0) (blk_set (i := 1) h.blk (.slice (some ⟨gn, 0, none⟩) N N)) (.slice (some ⟨w.heap.size, 0, none⟩) n n)) (.cells (Array.replicate n (.slice none 0 0)) 81)
        rw [← hN]; exact this)
    exact ⟨ow', _, h2⟩
  clear hN
  clear h q1 hold q2 q3 f2 f3
  go_enter Tryd.func35, Tryd.ntmps35
  go_wp2_with fail
  go_region_law (fail)
  all_goals
    refine bodyPost_end (results_none rfl _ _ _) rfl ?_
    exact ⟨rfl, HFIN.out⟩
end Go.Proofs.YtfdcacjfngjmdaaDoor.T
