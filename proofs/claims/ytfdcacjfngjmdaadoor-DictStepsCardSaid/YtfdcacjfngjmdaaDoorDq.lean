import Derived.Deep.DeepCutAuto
import Derived.Laws.OwnMore
import Derived.OwnWalk
import Derived.Lib.AppendStr
import Derived.Lib.SliceRun
import Derived.Lib.SmallJoins
import Derived.IntWalk
import Derived.WalkMore
import Derived.Lib.OthersKept
import Derived.Deep.LoopGhost
import Derived.Deep.RegionLaw
import Derived.Deep.AppendLies
import Derived.Test.YtfdcacjfngjmdaaDoorProg
import Derived.Test.YtfdcacjfngjmdaaDoorMem
import Derived.Test.YtfdcacjfngjmdaaDoorBlk
import Derived.Test.YtfdcacjfngjmdaaDoorAp
import Derived.Test.YtfdcacjfngjmdaaDoorDj
import Derived.Test.YtfdcacjfngjmdaaDoorDel
import Derived.Lib.SliceRun
import Derived.WalkKit
import Derived.Outline
import Derived.WalkLawsBesides
import Derived.Deep.QuietTactic
import Derived.BigQuiet
import Derived.Lib.Hide
import Derived.Handy
import Derived.Deep.RegionHeld3
import Derived.Deep.DrawnRows
import Derived.KernelRfl
import Derived.Great.Walk
import Derived.Test.YtfdcacjfngjmdaaDoorOwn
namespace Go.Proofs.YtfdcacjfngjmdaaDoor.T
open Go Go.RowKit Go.Sort Mem Own
set_option maxRecDepth 100000
set_option maxHeartbeats 1000000
set_option linter.unusedVariables false
set_option linter.unusedSimpArgs false

theorem ics_take : ∀ (l : List It) (k : Nat), (ics l).take (k * 2) = ics (l.take k)
  | [], k => by simp [ics]
  | p :: l, 0 => by simp [ics]
  | p :: l, k + 1 => by
    rw [show (k + 1) * 2 = k * 2 + 1 + 1 by omega]
    simp only [ics, List.take_succ_cons, ics_take l k]
theorem ics_drop : ∀ (l : List It) (k : Nat), (ics l).drop (k * 2) = ics (l.drop k)
  | [], k => by simp [ics]
  | p :: l, 0 => by simp [ics]
  | p :: l, k + 1 => by
    rw [show (k + 1) * 2 = k * 2 + 1 + 1 by omega]
    simp only [ics, List.drop_succ_cons, ics_drop l k]
theorem ics_cut (l : List It) (k : Nat) : (ics l).take (k * 2) ++ (ics l).drop ((k + 1) * 2) = ics (l.eraseIdx k) := by
  rw [ics_take, ics_drop, ← ics_app, List.eraseIdx_eq_take_drop_succ]
theorem zeroI : ∀ w, (zeroValue 80).run Tryd.prog w = .ok (.agg #[.string ⟨#[]⟩, .int .i64 0]) w := Tryd.zeroValue80
/-- slices.Delete of one item of a room. -/
theorem del36_is (B g n cap k : Nat) (xs : List Value) (w : World) (h : w.ownsRow B 80 2 (.slice (some ⟨g, 0, none⟩) n cap) n xs) (hk : k < n) (hn : n ≤ 1000000000000) (h1 : ∀ u ∈ xs, u.oneCell' = true) :
    Calls Tryd.prog 36 #[.slice (some ⟨g, 0, none⟩) n cap, .int .i64 (k : Int), .int .i64 ((k + 1 : Nat) : Int)] w fun e w' => e = .returned (.slice (some ⟨g, 0, none⟩) (n - 1) cap) ∧ w'.ownsRow B 80 2 (.slice (some ⟨g, 0, none⟩) (n - 1) cap) (n - 1) (xs.take (k * 2) ++ xs.drop ((k + 1) * 2)) ∧ w'.heap.size = w.heap.size ∧ Below g w w' ∧ ∀ b, b ≠ g → w'.heap[b]? = w.heap[b]? := by
  have hl := h.1
  obtain ⟨i0, hi0, hz0, hzz1, hz2⟩ := info_parts info80
  obtain ⟨hnc, hcm⟩ : n ≤ cap ∧ cap ≤ 9223372036854775807 := by
    rcases h.2 with ⟨h', _⟩ | ⟨g', cap', cur, h', hb, hg, hnc, hcm, hcs, htake⟩
    · simp at h'
    · simp only [Value.slice.injEq, Option.some.injEq, Addr.mk.injEq, and_true, true_and] at h'
      obtain ⟨rfl, rfl⟩ := h'
      exact ⟨hnc, hcm⟩
  obtain ⟨news, hnews⟩ : ∃ news, news = xs.drop ((k + 1) * 2) := ⟨_, rfl⟩
  have hnl : news.length = (n - (k + 1)) * 2 := by rw [hnews, List.length_drop, hl]; omega
  obtain ⟨A, hA, hsrc⟩ : ∃ A : Addr, (if cap = k + 1 then some (⟨g, 0, none⟩ : Addr) else some ⟨g, (k + 1) * 2, none⟩) = some A ∧ RowKit.Hid (∀ t u, news[t]? = some u → w.drew.cell? (A.add t) = some u) := by
    by_cases hc : cap = k + 1
    · refine ⟨⟨g, 0, none⟩, by simp [hc], fun t u hu => ?_⟩
      have h0 : news.length = 0 := by rw [hnl]; omega
      rw [List.length_eq_zero_iff.1 h0] at hu
      simp at hu
    · refine ⟨⟨g, (k + 1) * 2, none⟩, by simp [hc], fun t u hu => ?_⟩
      have ht : t < (n - (k + 1)) * 2 := by rw [← hnl]; exact (List.getElem?_eq_some_iff.1 hu).1
      rw [Addr.add_lit]
      refine (h.cellAt ((k + 1) * 2 + t) (by omega)).trans ?_
      rw [← hu, hnews, List.getElem?_drop]
  obtain ⟨W1, hW1⟩ : ∃ W1, W1 = w.drew.setCells g (k * 2) news := ⟨_, rfl⟩
  have s1 := Lib.hid (hnl)
  have s2 := Lib.hid (show ∀ u ∈ news, u.oneCell' = true from fun u hu => h1 u (by rw [hnews] at hu; exact List.mem_of_mem_drop hu))
  have s3 := Lib.hid (show ∀ t, t < news.length → (w.drew.cell? ⟨g, 0 + k * 2 + t, none⟩).isSome = true ∧ w.drew.frozen? ⟨g, 0 + k * 2 + t, none⟩ = false from fun t ht => by
    rw [hnl] at ht
    rw [Nat.zero_add]
    refine ⟨?_, h.frozenAt _⟩
    show (w.cell? _).isSome = true
    rw [h.cellAt (k * 2 + t) (by omega), List.getElem?_eq_getElem (by omega)]; rfl)
  have hfar : ∀ j, j < 2 → (W1.cell? ⟨g, (n - 1) * 2 + j, none⟩).isSome = true ∧ W1.frozen? ⟨g, (n - 1) * 2 + j, none⟩ = false := fun j hj => by
    rw [hW1]
    refine ⟨?_, by rw [World.frozen?_setCells]; exact h.frozenAt _⟩
    rw [World.cell?_setCells_out _ _ _ _ _ (fun _ _ => .inr (by rw [hnl]; dsimp only; omega))]
    show (w.cell? _).isSome = true
    rw [h.cellAt ((n - 1) * 2 + j) (by omega), List.getElem?_eq_getElem (by omega)]; rfl
  have hcl : ∀ ty, (Builtin.clear_ #[81] ty #[.slice (some ⟨g, (n - 1) * 2, none⟩) (n - (n - 1)) (cap - (n - 1))]).run Tryd.prog W1 = .ok (.tuple #[]) (W1.setCells g ((n - 1) * 2) [.string ⟨#[]⟩, .int .i64 0]) :=
    fun ty => by rw [show n - (n - 1) = 1 by omega]; exact Own.run_clear_row W1 81 80 ty _ 2 Tryd.underlying81 zeroI (by rfl) (by intro u hu; simp [Value.cells] at hu; rcases hu with rfl | rfl <;> rfl) (by omega) g ((n - 1) * 2) _ (fun j hj => (hfar j hj).1) (fun j hj => (hfar j hj).2)
  have HFIN := Lib.hid (show (W1.setCells g ((n - 1) * 2) [.string ⟨#[]⟩, .int .i64 0]).ownsRow B 80 2 (.slice (some ⟨g, 0, none⟩) (n - 1) cap) (n - 1) (xs.take (k * 2) ++ xs.drop ((k + 1) * 2)) ∧ (W1.setCells g ((n - 1) * 2) [.string ⟨#[]⟩, .int .i64 0]).heap.size = w.heap.size ∧ Below g w (W1.setCells g ((n - 1) * 2) [.string ⟨#[]⟩, .int .i64 0]) ∧ ∀ b, b ≠ g → (W1.setCells g ((n - 1) * 2) [.string ⟨#[]⟩, .int .i64 0]).heap[b]? = w.heap[b]? from by
    rw [hW1, hnews]
    refine ⟨Own.own_del (s := 2) (show w.drew.ownsRow B 80 2 (.slice (some ⟨g, 0, none⟩) n cap) n xs from h) hk rfl, by rw [Own.sets_size, Own.sets_size]; rfl, ((Below.refl _ _).drew.trans (Own.sets_below (Nat.le_refl _) _ _ _)).trans (Own.sets_below (Nat.le_refl _) _ _ _), fun b hb => by rw [Own.sets_far hb, Own.sets_far hb]; rfl⟩)
  have hW := Lib.hid hW1
  have HA := Lib.hid hA
  have hkc : (k : Int) ≤ (cap : Int) := by omega
  have hkc1 : ((k + 1 : Nat) : Int) ≤ (cap : Int) := by omega
  have hkn1 : ((k + 1 : Nat) : Int) ≤ (n : Int) := by omega
  have hkk : (0 : Int) ≤ (k : Int) + 1 := by omega
  have hkk2 : (k : Int) + 1 ≤ (n : Int) := by omega
  have hkk3 : (k : Int) + 1 ≤ (cap : Int) := by omega
  clear hW1 hfar hnl hnews hl h1 h
  go_enter Tryd.func36, Tryd.ntmps36
  go_wp2_with fail
  go_region_law (refine step_append_room (by rfl) (.tmp 22) (.tmp 25) 81 rfl 80 i0 2 Tryd.underlying81 hi0 hzz1 g 0 k cap (by simp [Act.eval, Act.put]) A (n - (k + 1)) (cap - (k + 1)) news (by simp [Act.eval, Act.put]) s1.out hsrc.out s2.out (by omega) s3.out ?_)
  rw [← hW.out]
  have hb1 : (k : Int) + ((n - (k + 1) : Nat) : Int) = ((n - 1 : Nat) : Int) := by omega
  go_wp2
  go_ret
  exact ⟨by rw [show n - 1 = k + (n - (k + 1)) by omega]; rfl, HFIN.out⟩
end Go.Proofs.YtfdcacjfngjmdaaDoor.T
