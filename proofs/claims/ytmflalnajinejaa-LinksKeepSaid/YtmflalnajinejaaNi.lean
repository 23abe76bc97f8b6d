import Derived.Deep.DeepCutAuto
import Derived.Laws.OwnMore
import Derived.OwnWalk
import Derived.Lib.AppendStr
import Derived.Lib.SliceRun
import Derived.Lib.SmallJoins
import Derived.IntWalk
import Derived.WalkMore
import Derived.Lib.OthersKept
import Derived.Deep.LoopGhost
import Derived.Deep.RegionLaw
import Derived.Deep.AppendLies
import Derived.Test.YtmflalnajinejaaProg
import Derived.Test.YtmflalnajinejaaMem
import Derived.Test.YtmflalnajinejaaBlk
import Derived.Test.YtmflalnajinejaaAp
import Derived.Test.YtmflalnajinejaaKa
import Derived.Test.YtmflalnajinejaaKc
import Derived.Test.YtmflalnajinejaaKd
import Derived.Test.YtmflalnajinejaaKi
import Derived.Test.YtmflalnajinejaaKj
import Derived.Test.YtmflalnajinejaaKl
import Derived.Test.YtmflalnajinejaaKm
import Derived.Test.YtmflalnajinejaaKn
import Derived.Test.YtmflalnajinejaaKr
import Derived.Test.YtmflalnajinejaaKs
import Derived.Test.YtmflalnajinejaaMa
import Derived.Test.YtmflalnajinejaaMb
import Derived.Test.YtmflalnajinejaaMc
import Derived.Test.YtmflalnajinejaaMd
import Derived.Test.YtmflalnajinejaaNa
import Derived.Test.YtmflalnajinejaaNd
import Derived.Test.YtmflalnajinejaaNe
import Derived.WalkKit
import Derived.Outline
import Derived.WalkLawsBesides
import Derived.Deep.QuietTactic
import Derived.BigQuiet
import Derived.Lib.Hide
import Derived.Handy
import Derived.Deep.RegionHeld3
import Derived.Deep.DrawnRows
import Derived.KernelRfl
import Derived.Great.Walk
import Derived.Test.YtmflalnajinejaaOwn
namespace Go.Proofs.Ytmflalnajinejaa.T
open Go Go.RowKit Go.Sort Mem Own
set_option maxRecDepth 100000
set_option maxHeartbeats 1000000
set_option linter.unusedVariables false
set_option linter.unusedSimpArgs false

open Go.WideMaps Go.Maps
theorem app_texts (W : World) (B : Nat) (hB : B ≤ W.heap.size) (A : Option Addr) (l : List ByteArray) (n c : Nat) (hl : l.length = n) (hr : Rd W A l) (hn : n ≤ 1000000) :
    ∃ v' w', (Builtin.append_ #[28, 28] 28 #[.slice (some ⟨W.heap.size, 0, none⟩) 0 0, .slice A n c]).run Try.prog (W.alloc (.cells #[] 9)) = .ok v' w' ∧ (w'.ownsRow B 9 1 v' n (l.map .string) ∧ Below B W w') := by
  obtain ⟨i0, hi, hz0, hz1, hz2⟩ := info_parts info9
  have hs := alloc_sz W (.cells #[] 9)
  obtain ⟨v', w', g1, g2, g3⟩ := app_any (P := Try.prog) (W.alloc (.cells #[] 9)) B 28 28 9 i0 _ 1 16 und28 hi hz0 hz1 hz2 rfl (by decide) (.slice (some ⟨W.heap.size, 0, none⟩) 0 0) 0 [] (World.ownsRow_lit W #[] 0 hB (Nat.zero_le _) rfl) A n c (l.map .string) (by simp [hl]) (fun j u e => by
    rcases hr with rfl | ⟨b, off, rfl, h⟩
    · simp at e
    · refine ⟨_, rfl, ?_⟩
      rw [addr_add]
      simp at e
      obtain ⟨x, hx, rfl⟩ := e
      exact cell_below ((Below.refl _ _).alloc (Nat.le_refl _) _) (h j x hx)) (by intro u hu; obtain ⟨x, _, rfl⟩ := List.mem_map.1 hu; rfl) (by simp only [maxLen]; omega) (by omega) (by omega)
  refine ⟨v', w', g1, by simpa using g2, ((Below.refl _ _).alloc hB _).trans g3⟩
theorem rep_cells {w : World} {A : Option Addr} {l : List T} (hr : RdA w A l) : ∃ xs : List Value, xs.length = l.length * 4 ∧ (∀ u ∈ xs, u.oneCell' = true) ∧ (∀ j u, xs[j]? = some u → ∃ a, A = some a ∧ w.cell? (a.add j) = some u) ∧ ∀ j (h : j < l.length), ∃ A' c', xs[j * 4]? = some (.int .i64 l[j].k) ∧ xs[j * 4 + 1]? = some (.int .i64 l[j].z) ∧ xs[j * 4 + 2]? = some (.string l[j].t) ∧ xs[j * 4 + 3]? = some (.slice A' l[j].l.length c') ∧ RdT w A' l[j] := by
  rcases hr with rfl | ⟨b, off, rfl, hrow⟩
  · exact ⟨[], rfl, fun u hu => by simp at hu, fun j u e => by simp at e, fun j h => by simp at h⟩
  · obtain ⟨news, h1, h2, h3⟩ := news_ex (cl_pre (A := some ⟨b, off, none⟩) (.inr ⟨b, off, rfl, hrow⟩))
    obtain ⟨h4, h5⟩ := h3 _ rfl
    refine ⟨news, h1, h2, fun j u e => ⟨_, rfl, h4 j u e⟩, fun j hj => ?_⟩
    obtain ⟨A', c', g0, g1, g2, g3, g4⟩ := hrow.at hj
    refine ⟨A', c', ?_, ?_, ?_, ?_, g4⟩
    · rw [← h5 _ (by omega), addr_add]; exact g0
    · rw [← h5 _ (by omega), addr_add, ← Nat.add_assoc]; exact g1
    · rw [← h5 _ (by omega), addr_add, ← Nat.add_assoc]; exact g2
    · rw [← h5 _ (by omega), addr_add, ← Nat.add_assoc]; exact g3
theorem app_reps (W : World) (B : Nat) (hB : B ≤ W.heap.size) (A : Option Addr) (n c : Nat) (xs : List Value) (hl : xs.length = n * 4) (h1 : ∀ u ∈ xs, u.oneCell' = true) (hr : ∀ j u, xs[j]? = some u → ∃ a, A = some a ∧ W.cell? (a.add j) = some u) (hn : n ≤ 1000000) :
    ∃ v' w', (Builtin.append_ #[29, 29] 29 #[.slice (some ⟨W.heap.size, 0, none⟩) 0 0, .slice A n c]).run Try.prog (W.alloc (.cells #[] 31)) = .ok v' w' ∧ (w'.ownsRow B 31 4 v' n xs ∧ Below B W w') := by
  obtain ⟨i0, hi, hz0, hz1, hz2⟩ := info_parts info31
  have hs := alloc_sz W (.cells #[] 31)
  obtain ⟨v', w', g1, g2, g3⟩ := app_any (P := Try.prog) (W.alloc (.cells #[] 31)) B 29 29 31 i0 _ 4 56 und29 hi hz0 hz1 hz2 rfl (by decide) (.slice (some ⟨W.heap.size, 0, none⟩) 0 0) 0 [] (World.ownsRow_lit W #[] 0 hB (Nat.zero_le _) rfl) A n c xs hl (fun j u e => by
    obtain ⟨a, e1, e2⟩ := hr j u e
    exact ⟨a, e1, cell_below ((Below.refl _ _).alloc (Nat.le_refl _) _) e2⟩) h1 (by simp only [maxLen]; omega) (by omega) (by omega)
  refine ⟨v', w', g1, by simpa using g2, ((Below.refl _ _).alloc hB _).trans g3⟩
/-- A row of one's own, read again as replies. -/
theorem own_rep {w0 w : World} {B n c : Nat} {A : Option Addr} {xs : List Value} {l : List T} (h : w.ownsRow B 31 4 (.slice A n c) n xs) (hl : l.length = n) (hk : Keeps w0 w) (hx : ∀ j (h : j < l.length), ∃ A' c', xs[j * 4]? = some (.int .i64 l[j].k) ∧ xs[j * 4 + 1]? = some (.int .i64 l[j].z) ∧ xs[j * 4 + 2]? = some (.string l[j].t) ∧ xs[j * 4 + 3]? = some (.slice A' l[j].l.length c') ∧ RdT w0 A' l[j]) : RdA w A l := by
  have h' := h
  rcases h.2 with ⟨e, h0⟩ | ⟨g, cap, cur, e, hB, hg, hnc, hcm, _⟩
  · exact .inl (List.eq_nil_of_length_eq_zero (by omega))
  · injection e with e1 e2 e3
    subst e1; subst e3
    refine .inr ⟨g, 0, rfl, RdRow.mk fun j hj => ?_⟩
    obtain ⟨A', c', g0, g1, g2, g3, g4⟩ := hx j hj
    refine ⟨A', c', ?_, ?_, ?_, ?_, g4.keeps hk⟩
    · rw [Nat.zero_add, h'.cellAt (j * 4) (by omega)]; exact g0
    · rw [Nat.zero_add, h'.cellAt (j * 4 + 1) (by omega)]; exact g1
    · rw [Nat.zero_add, h'.cellAt (j * 4 + 2) (by omega)]; exact g2
    · rw [Nat.zero_add, h'.cellAt (j * 4 + 3) (by omega)]; exact g3
theorem own_txt {w : World} {B n c : Nat} {A : Option Addr} {l : List ByteArray} (h : w.ownsRow B 9 1 (.slice A n c) n (l.map .string)) (hl : l.length = n) : Rd w A l := by
  have h' := h
  rcases h.2 with ⟨e, h0⟩ | ⟨g, cap, cur, e, hB, hg, hnc, hcm, _⟩
  · exact .inl (List.eq_nil_of_length_eq_zero (by omega))
  · injection e with e1 e2 e3
    subst e1; subst e3
    refine .inr ⟨g, 0, rfl, fun i x hx => ?_⟩
    have hi : i < l.length := (List.getElem?_eq_some_iff.1 hx).1
    rw [Nat.zero_add, h'.cellAt i (by omega)]
    simp [hx]
theorem own_sl {w : World} {B T sz n : Nat} {v : Value} {xs : List Value} (h : w.ownsRow B T sz v n xs) : ∃ A c, v = .slice A n c := by
  rcases h.2 with ⟨rfl, h0⟩ | ⟨g, cap, cur, rfl, _⟩
  · exact ⟨none, 0, by rw [h0]⟩
  · exact ⟨_, cap, rfl⟩
theorem own_ad {w : World} {B T sz n c : Nat} {A : Option Addr} {xs : List Value} (h : w.ownsRow B T sz (.slice A n c) n xs) (h0 : 0 < n) : ∃ g, A = some ⟨g, 0, none⟩ := by
  rcases h.2 with ⟨e, hn⟩ | ⟨g, cap, cur, e, _⟩
  · omega
  · injection e with e1; exact ⟨g, e1⟩
end Go.Proofs.Ytmflalnajinejaa.T
