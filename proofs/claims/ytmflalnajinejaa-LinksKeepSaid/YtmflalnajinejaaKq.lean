import Derived.Deep.DeepCutAuto
import Derived.Laws.OwnMore
import Derived.OwnWalk
import Derived.Lib.AppendStr
import Derived.Lib.SliceRun
import Derived.Lib.SmallJoins
import Derived.IntWalk
import Derived.WalkMore
import Derived.Lib.OthersKept
import Derived.Deep.LoopGhost
import Derived.Deep.RegionLaw
import Derived.Deep.AppendLies
import Derived.Test.YtmflalnajinejaaProg
import Derived.Test.YtmflalnajinejaaMem
import Derived.Test.YtmflalnajinejaaBlk
import Derived.Test.YtmflalnajinejaaAp
import Derived.Test.YtmflalnajinejaaKa
import Derived.Test.YtmflalnajinejaaKd
import Derived.Test.YtmflalnajinejaaKh
import Derived.Test.YtmflalnajinejaaKl
import Derived.Test.YtmflalnajinejaaKm
import Derived.Test.YtmflalnajinejaaKn
import Derived.Test.YtmflalnajinejaaOwn
import Derived.WalkKit
import Derived.Outline
import Derived.WalkLawsBesides
import Derived.Deep.QuietTactic
import Derived.BigQuiet
import Derived.Lib.Hide
import Derived.Handy
import Derived.Deep.RegionHeld3
import Derived.Deep.DrawnRows
import Derived.KernelRfl
import Derived.Great.Walk
import Derived.Test.YtmflalnajinejaaOwn
namespace Go.Proofs.Ytmflalnajinejaa.T
open Go Go.RowKit Go.Sort Mem Own
set_option maxRecDepth 100000
set_option maxHeartbeats 1000000
set_option linter.unusedVariables false
set_option linter.unusedSimpArgs false

open Go.WideMaps Go.Maps
/-- slices.Clip -/
theorem clip_is (A : Option Addr) (n c : Nat) (w : World) (h : n ≤ c) (h2 : c ≤ maxLen) : Calls Try.prog 25 #[.slice A n c] w fun e w' => e = .returned (.slice A n n) ∧ w = w' := by
  have hm : n ≤ 9223372036854775807 := Nat.le_trans h h2
  go_enter Try.func25, Try.ntmps25
  go_wp2
  go_ret
  by_cases hn : n = 0
  · subst hn
    refine ⟨?_, rfl⟩
    simp
  · refine ⟨?_, rfl⟩
    simp
theorem rdl_snoc {w w' : World} {g : Nat} {l : List Lt} {os : List Wh} {x : Lt} {o : Wh} (hk : Keeps w w') (hl : os.length = l.length) (hO : ∀ i (h1 : i < l.length) (h2 : i < os.length), LtO w l[i] os[i]) (hx : LtO w x o)
    (hc : ∀ j u, ((List.zipWith ltC l os).flatten ++ ltC x o)[j]? = some u → w'.cell? ⟨g, j, none⟩ = some u) : RdL w' (some ⟨g, 0, none⟩) (l ++ [x]) := by
  refine .inr ⟨g, 0, rfl, RdL.of_cells (os := os ++ [o]) (by simp [hl]) (fun i h1 h2 => ?_) (fun j u e => ?_)⟩
  · by_cases hi : i < l.length
    · rw [List.getElem_append_left hi, List.getElem_append_left (by omega)]
      exact (hO i hi (by omega)).keeps hk
    · have hil : i = l.length := by simp at h1; omega
      subst hil
      simp only [List.getElem_append_right (Nat.le_refl _)]
      rw [List.getElem_append_right (by omega)]
      simp [hl]
      exact hx.keeps hk
  · rw [List.zipWith_append hl.symm, List.flatten_append] at e
    rw [Nat.zero_add]
    exact hc j u (by simpa using e)
theorem app_letter (w : World) (A : Option Addr) (N : Nat) (l : List Lt) (hl : l.length = N) (hN : N ≤ 1000000) (h0 : N = 0 → A = none) (hr : RdL w A l) (bx : Nat) (x : Lt) (o : Wh) (hx : ∀ j u, (ltC x o)[j]? = some u → w.cell? ⟨bx, 0 + j, none⟩ = some u) (hO : LtO w x o) :
    ∃ v' w', (Builtin.append_ #[63, 63] 63 #[.slice A N N, .slice (some ⟨bx, 0, none⟩) 1 1]).run Try.prog w = .ok v' w' ∧ (∃ g c, v' = .slice (some ⟨g, 0, none⟩) (N + 1) c ∧ N + 1 ≤ c ∧ c ≤ maxLen ∧ RdL w' (some ⟨g, 0, none⟩) (l ++ [x]) ∧ w.heap.size ≤ g ∧ ∀ j u, (ltC x o)[j]? = some u → w'.cell? ⟨g, N * 13 + j, none⟩ = some u) ∧ Below w.heap.size w w' := by
  obtain ⟨i0, hi, hz0, hz1, hz2⟩ := info_parts info33
  have hnews : ∀ j u, (ltC x o)[j]? = some u → w.cell? ((⟨bx, 0, none⟩ : Addr).add j) = some u := fun j u e => by rw [addr_add]; exact hx j u e
  by_cases hz : N = 0
  · have hA := h0 hz
    subst hA
    subst hz
    have hl0 : l = [] := List.eq_nil_of_length_eq_zero hl
    subst hl0
    obtain ⟨v', w', g1, g2, g3, g4⟩ := run_append_own (P := Try.prog) w w.heap.size 63 63 33 i0 _ 13 160 Try.underlying63 hi hz0 hz1 hz2 rfl (by decide) (.slice none 0 0) 0 [] (World.ownsRow_nil w w.heap.size 33 13) ⟨bx, 0, none⟩ 1 1 (ltC x o) rfl hnews (by intro u hu; simp at hu; rcases hu with rfl | rfl | rfl | rfl | rfl | rfl | rfl | rfl | rfl | rfl | rfl | rfl | rfl <;> rfl) (by decide) (by decide) (Nat.le_refl _)
    have hb : Below w.heap.size w w' := ⟨g3.os, g3.tape, g3.output, g3.size, fun k hk => g3.block k hk (by simp [Value.ownBlock])⟩
    have g2' := g2
    rcases g2.2 with ⟨_, e⟩ | ⟨g, cap, cur, rfl, q1, q2, q3, q4, q5, q6⟩
    · cases e
    · have hcl : ∀ j u, (ltC x o)[j]? = some u → w'.cell? ⟨g, j, none⟩ = some u := by
        intro j u e
        have hj : j < 13 := by have := (List.getElem?_eq_some_iff.1 e).1; simpa using this
        rw [g2'.cellAt j (by omega)]
        exact e
      refine ⟨_, w', g1, ⟨g, cap, rfl, q3, q4, ?_, q1, fun j u e => by rw [Nat.zero_mul, Nat.zero_add]; exact hcl j u e⟩, hb⟩
      refine rdl_snoc (l := []) (os := []) (keeps_below hb) rfl (fun i h1 => by simp at h1) hO (fun j u e => ?_)
      have hj : j < 13 := by have := (List.getElem?_eq_some_iff.1 e).1; simpa using this
      rw [g2'.cellAt j (by omega)]
      exact e
  · obtain ⟨b, off, rfl, hrow⟩ := hr.row (by omega)
    obtain ⟨os, ho1, ho2, ho3⟩ := RdL.cells hrow
    have hfl : (List.zipWith ltC l os).flatten.length = N * 13 := by rw [flat13_len zip_len13, List.length_zipWith]; omega
    have hrun := run_append_grow (P := Try.prog) (w := w) 63 63 33 i0 _ Try.underlying63 hi hz0 ⟨b, off, none⟩ N N (List.zipWith ltC l os).flatten (by rw [hfl, hz1]) (fun j v e => by rw [addr_add]; exact ho3 j v e) ⟨bx, 0, none⟩ 1 1 (ltC x o) (by rw [hz1]; rfl) hnews (by omega) (by omega) (growslice_fits (by omega) (by rw [hz2]; omega))
    have hb : Below w.heap.size w (w.drew.alloc (.cells ((List.zipWith ltC l os).flatten.toArray ++ (ltC x o).toArray ++ Builtin.zeroCells (ltV Lt.zero ⟨none, 0, none, 0⟩).cells (grownCap w (N + 1) N 33 - (N + 1))) 33)) := (Below.refl _ _).drew.alloc (Nat.le_refl _) _
    have hcl : ∀ j u, ((List.zipWith ltC l os).flatten ++ ltC x o)[j]? = some u → (w.drew.alloc (.cells ((List.zipWith ltC l os).flatten.toArray ++ (ltC x o).toArray ++ Builtin.zeroCells (ltV Lt.zero ⟨none, 0, none, 0⟩).cells (grownCap w (N + 1) N 33 - (N + 1))) 33)).cell? ⟨w.heap.size, j, none⟩ = some u := by
      intro j u e
      refine Eq.trans (of_blk (heap_alloc_new w.drew _) j) ?_
      have hj := (List.getElem?_eq_some_iff.1 e).1
      rw [Array.getElem?_append_left (by simp at hj ⊢; omega)]
      rw [← List.getElem?_toArray] at e
      simpa using e
    refine ⟨_, _, hrun, ⟨w.heap.size, grownCap w (N + 1) N 33, rfl, grownCap_ge w (N + 1) N 33, grownCap_le_maxLen w (N + 1) N 33 (by simp only [maxLen]; omega), rdl_snoc (keeps_below hb) ho1 ho2 hO hcl, Nat.le_refl _, fun j u e => hcl _ _ ?_⟩, hb⟩
    rw [List.getElem?_append_right (by omega), hfl, Nat.add_sub_cancel_left]
    exact e
end Go.Proofs.Ytmflalnajinejaa.T
