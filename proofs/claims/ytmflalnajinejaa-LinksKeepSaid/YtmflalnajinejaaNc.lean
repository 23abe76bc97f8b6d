import Derived.Deep.DeepCutAuto
import Derived.Laws.OwnMore
import Derived.OwnWalk
import Derived.Lib.AppendStr
import Derived.Lib.SliceRun
import Derived.Lib.SmallJoins
import Derived.IntWalk
import Derived.WalkMore
import Derived.Lib.OthersKept
import Derived.Deep.LoopGhost
import Derived.Deep.RegionLaw
import Derived.Deep.AppendLies
import Derived.Test.YtmflalnajinejaaProg
import Derived.Test.YtmflalnajinejaaMem
import Derived.Test.YtmflalnajinejaaBlk
import Derived.Test.YtmflalnajinejaaAp
import Derived.Test.YtmflalnajinejaaKa
import Derived.Test.YtmflalnajinejaaKd
import Derived.Test.YtmflalnajinejaaKh
import Derived.Test.YtmflalnajinejaaKl
import Derived.Test.YtmflalnajinejaaKm
import Derived.Test.YtmflalnajinejaaKn
import Derived.Test.YtmflalnajinejaaKx
import Derived.Test.YtmflalnajinejaaMa
import Derived.Test.YtmflalnajinejaaMd
import Derived.Test.YtmflalnajinejaaNa
import Derived.Test.YtmflalnajinejaaNb
import Derived.Test.YtmflalnajinejaaZr
import Derived.WalkKit
import Derived.Outline
import Derived.WalkLawsBesides
import Derived.Deep.QuietTactic
import Derived.BigQuiet
import Derived.Lib.Hide
import Derived.Handy
import Derived.Deep.RegionHeld3
import Derived.Deep.DrawnRows
import Derived.KernelRfl
import Derived.Great.Walk
import Derived.Test.YtmflalnajinejaaOwn
namespace Go.Proofs.Ytmflalnajinejaa.T
open Go Go.RowKit Go.Sort Mem Own
set_option maxRecDepth 100000
set_option maxHeartbeats 1000000
set_option linter.unusedVariables false
set_option linter.unusedSimpArgs false

open Go.WideMaps Go.Maps
theorem len_zero {A : Option Addr} {l : List Wy} {w : World} (h : RdW w A l) (hA : A = none) : l = [] := by
  rcases h with h | ⟨b, off, e, _⟩
  · exact h
  · rw [hA] at e; cases e
/-- append(an empty literal, a row...): a row of one's own, or the literal as it was. -/
def OwnZ (w0 w : World) (v : Value) (l : List Wy) : Prop := OwnW w0.heap.size w0 w v l ∨ (l = [] ∧ ∃ g, v = .slice (some ⟨g, 0, none⟩) 0 0)
theorem grow_ways (w0 W : World) (g : Nat) (hb : Below w0.heap.size w0 W) (a : Addr) (l : List Wy) (os : List Wh) (c : Nat) (ho : WyO w0 l os) (hc : ∀ j u, (wyF l os)[j]? = some u → W.cell? (a.add j) = some u) (hl : 0 < l.length) (hn : l.length ≤ 1000000) :
    ∃ v' w', (Builtin.append_ #[27, 27] 27 #[.slice (some ⟨g, 0, none⟩) 0 0, .slice (some a) l.length c]).run Try.prog W = .ok v' w' ∧ OwnW w0.heap.size w0 w' v' l ∧ Below W.heap.size W w' := by
  obtain ⟨i0, hi, hz0, hz1, hz2⟩ := info_parts info56
  have hlen := ho.len
  have hr := run_append_grow (P := Try.prog) (w := W) 27 27 56 i0 _ Try.underlying27 hi hz0 ⟨g, 0, none⟩ 0 0 [] (by rw [Nat.zero_mul]; rfl) (fun j u e => by simp at e) a l.length c (wyF l os) (by rw [hz1]; exact hlen) hc (by omega) (by omega) (growslice_fits (by omega) (by rw [hz2]; omega))
  have hge := grownCap_ge W (0 + l.length) 0 56
  have hcm : grownCap W (0 + l.length) 0 56 ≤ maxLen := grownCap_le_maxLen W (0 + l.length) 0 56 (by simp only [maxLen]; omega)
  refine ⟨_, _, hr, ⟨os, ?_, ho⟩, ((Below.refl _ _).drew.alloc (Nat.le_refl _) _)⟩
  rw [Nat.zero_add] at hge hcm ⊢
  refine ⟨hlen, .inr ⟨W.heap.size, _, _, rfl, hb.size, heap_alloc_new W.drew _, hge, hcm, ?_, ?_⟩⟩
  · have hz : (Value.agg #[.int .i64 0, .int .i64 0, .int .i64 0, .int .i64 0, .int .i64 0, .int .i64 0, .string ⟨#[]⟩, .string ⟨#[]⟩, .slice none 0 0, .int .i64 0, .int .i64 0, .string ⟨#[]⟩, .slice none 0 0, .bool false, .int .i64 0]).cells.size = 15 := rfl
    rw [Array.size_append, Array.size_append, size_zeroCells, hz, List.size_toArray, List.size_toArray, hlen]
    simp only [List.length_nil, Nat.zero_mul]
    omega
  · simp only [Array.toList_append, ← hlen, List.nil_append]
    exact List.take_left
/-- append(an empty literal, w...) -/
theorem app_ways0 (w0 W : World) (g : Nat) (hb : Below w0.heap.size w0 W) (A : Option Addr) (l : List Wy) (c : Nat) (hr : RdW w0 A l) (hn : l.length ≤ 1000000) :
    ∃ v' w', (Builtin.append_ #[27, 27] 27 #[.slice (some ⟨g, 0, none⟩) 0 0, .slice A l.length c]).run Try.prog W = .ok v' w' ∧ (OwnZ w0 w' v' l ∧ Below W.heap.size W w') := by
  obtain ⟨i0, hi, hz0, hz1, hz2⟩ := info_parts info56
  rcases Nat.eq_zero_or_pos l.length with h0 | h0
  · have hl : l = [] := List.eq_nil_of_length_eq_zero h0
    subst hl
    refine ⟨.slice (some ⟨g, 0, none⟩) 0 0, W, ?_, .inr ⟨rfl, g, rfl⟩, Below.refl _ _⟩
    cases A <;> simp [Builtin.append_, run_underlying Try.underlying27, sizeOf, typeInfo, hi, Builtin.lenOf, Builtin.firstCells, storeCells, loadCells, loadCellsFrom]
  · obtain ⟨os, h3, h4⟩ := hr.cells
    cases A with
    | none => have := len_zero hr rfl; rw [this] at h0; simp at h0
    | some a =>
      obtain ⟨v', w', g1, g2, g3⟩ := grow_ways w0 W g hb a l os c h3 (fun j u e => by obtain ⟨a', e1, e2⟩ := h4 j u e; injection e1 with e1; rw [e1]; exact cell_below hb e2) h0 hn
      exact ⟨v', w', g1, .inl g2, g3⟩
/-- One more behind it: where its cells lie is told. -/
theorem app_way0 (w0 W : World) (v : Value) (acc : List Wy) (h : OwnZ w0 W v acc) (hb : Below w0.heap.size w0 W) (p : Wy) (o : Wh) (ho : LtO w0 p.2 o) (hn : acc.length ≤ 100000) (G : Nat) (hG : W.heap[G]? = some (.cells (wyC p o).toArray 56 (0, 0))) :
    ∃ v' w', (Builtin.append_ #[27, 27] 27 #[v, .slice (some ⟨G, 0, none⟩) 1 1]).run Try.prog W = .ok v' w' ∧ (OwnW w0.heap.size w0 w' v' (acc ++ [p]) ∧ Below w0.heap.size w0 w') := by
  have hcell : ∀ j u, (wyC p o)[j]? = some u → W.cell? ((⟨G, 0, none⟩ : Addr).add j) = some u := fun j u e => by rw [addr_add, Nat.zero_add, of_blk hG j]; simpa using e
  rcases h with ⟨os, h1, h2⟩ | ⟨rfl, g, rfl⟩
  · obtain ⟨i0, hi, hz0, hz1, hz2⟩ := info_parts info56
    obtain ⟨v', w', g1, g2, g3⟩ := app_any (P := Try.prog) W w0.heap.size 27 27 56 i0 _ 15 176 Try.underlying27 hi hz0 hz1 hz2 rfl (by decide) v acc.length (wyF acc os) h1 (some ⟨G, 0, none⟩) 1 1 (wyC p o) rfl (fun j u e => ⟨_, rfl, hcell j u e⟩) (by intro u hu; simp at hu; rcases hu with rfl | rfl | rfl | rfl | rfl | rfl | rfl | rfl | rfl | rfl | rfl | rfl | rfl | rfl | rfl <;> rfl) (by simp only [maxLen]; omega) (by omega) hb.size
    exact ⟨v', w', g1, ⟨os ++ [o], by rw [wyF_snoc h2, List.length_append]; exact g2, h2.snoc ho⟩, hb.trans g3⟩
  · have hO : WyO w0 [p] [o] := (WyO.nil w0).snoc (l := []) (os := []) ho
    have hF : wyF [p] [o] = wyC p o := by unfold wyF; simp
    obtain ⟨v', w', g1, g2, g3⟩ := grow_ways w0 W g hb ⟨G, 0, none⟩ [p] [o] 1 hO (fun j u e => hcell j u (by rw [← hF]; exact e)) (by simp) (by simp)
    exact ⟨v', w', g1, g2, hb.trans (g3.mono hb.size)⟩
end Go.Proofs.Ytmflalnajinejaa.T
