import Derived.Deep.DeepCutAuto
import Derived.Laws.OwnMore
import Derived.OwnWalk
import Derived.Lib.AppendStr
import Derived.Laws.IdiomStrings
import Derived.Lib.ConvBytes
import Derived.Lib.SmallJoins
import Derived.IntWalk
import Derived.Deep.AppendLies
import Derived.Deep.RegionLaw
import Derived.Test.YtdpgkihecpjijaaDoorProg
import Derived.Test.YtdpgkihecpjijaaDoorMem
import Derived.Test.YtdpgkihecpjijaaDoorVt
import Derived.Test.YtdpgkihecpjijaaDoorVu
import Derived.Test.YtdpgkihecpjijaaDoorVw
import Derived.Test.YtdpgkihecpjijaaDoorVx
import Derived.Test.YtdpgkihecpjijaaDoorWf
import Derived.Test.YtdpgkihecpjijaaDoorWw
import Derived.Lib.SliceRun
import Derived.WalkKit
import Derived.Outline
import Derived.WalkLawsBesides
import Derived.Deep.QuietTactic
import Derived.BigQuiet
import Derived.Lib.Hide
import Derived.Handy
import Derived.Deep.RegionHeld3
import Derived.Deep.DrawnRows
import Derived.KernelRfl
import Derived.Great.Walk
import Derived.Test.YtdpgkihecpjijaaDoorOwn
namespace Go.Proofs.YtdpgkihecpjijaaDoor.T
open Go Go.RowKit Mem Own
set_option maxRecDepth 100000
set_option maxHeartbeats 1000000
set_option linter.unusedVariables false
set_option linter.unusedSimpArgs false

theorem add_off (b off j : Nat) : (⟨b, off, none⟩ : Addr).add j = ⟨b, off + j, none⟩ := by
  by_cases h : j = 0
  · subst h; simp [Addr.add]
  · simp [Addr.add, h]
theorem news9 {w : World} {a : Addr} {l : List ByteArray} (ha : Rd w (some a) l) : ∀ j u, (vs l)[j]? = some u → w.cell? (a.add j) = some u := by
  intro j u hu
  rcases ha with rfl | ⟨b, off, e, hc⟩
  · simp [vs] at hu
  · cases e
    simp only [vs, List.getElem?_map, Option.map_eq_some_iff] at hu
    obtain ⟨x, hx, rfl⟩ := hu
    rw [add_off]
    exact hc j x hx
theorem psv_split : ∀ (l : List (ByteArray × ByteArray)) (j : Nat) (u : Value), (psv l)[j]? = some u → ∃ i p, l[i]? = some p ∧ ((j = i * 2 ∧ u = .string p.1) ∨ (j = i * 2 + 1 ∧ u = .string p.2))
  | [], j, u, h => by simp [psv] at h
  | q :: l, 0, u, h => ⟨0, q, rfl, .inl ⟨rfl, by simp [psv] at h; exact h.symm⟩⟩
  | q :: l, 1, u, h => ⟨0, q, rfl, .inr ⟨rfl, by simp [psv] at h; exact h.symm⟩⟩
  | q :: l, j + 2, u, h => by
    obtain ⟨i, p, h1, h2⟩ := psv_split l j u (by simpa [psv] using h)
    refine ⟨i + 1, p, by simpa using h1, ?_⟩
    rcases h2 with ⟨e, h⟩ | ⟨e, h⟩
    · exact .inl ⟨by omega, h⟩
    · exact .inr ⟨by omega, h⟩
theorem newsP {w : World} {a : Addr} {l : List (ByteArray × ByteArray)} (ha : RdP w (some a) l) : ∀ j u, (psv l)[j]? = some u → w.cell? (a.add j) = some u := by
  intro j u hu
  rcases ha with rfl | ⟨b, off, e, hc⟩
  · simp [psv] at hu
  · cases e
    obtain ⟨i, p, hp, h⟩ := psv_split l j u hu
    rw [add_off]
    rcases h with ⟨rfl, rfl⟩ | ⟨rfl, rfl⟩
    · exact (hc i p hp).1
    · exact (hc i p hp).2
theorem clone_is (A : Option Addr) (l : List ByteArray) (c : Nat) (w : World) (ha : Rd w A l) (hn : l.length * 16 ≤ 140737488355328) :
    Calls Tryd.prog 49 #[.slice A l.length c] w fun e w' => ∃ C k, e = .returned (.slice C l.length k) ∧ RowKit.Hid (w'.ownsRow w.heap.size 9 1 (.slice C l.length k) l.length (vs l)) ∧ Below w.heap.size w w' := by
  obtain ⟨i0, hi, hz0, hz1, hz2⟩ := info_parts info9
  cases A with
  | none =>
    have hl : l = [] := by
      rcases ha with h | ⟨b, off, h, _⟩
      · exact h
      · cases h
    subst hl
    have kq := fun w' : World => Lib.run_eql_slice_nil (P := Tryd.prog) w' 23 9 none 0 c 0 0 Tryd.underlying23
    go_enter Tryd.func49, Tryd.ntmps49
    go_wp2
    go_ret
    exact ⟨none, 0, rfl, Lib.hid (World.ownsRow_nil _ _ _ _), (by ((repeat (first | exact Below.refl _ _ | (refine Below.drew ?_) | (refine Go.below_drewN ?_ _) | (refine Below.alloc ?_ (by first | (simp; done) | omega | (simp; omega)) _) | (refine Below.setCell ?_ (by first | (simp; done) | omega | (simp; omega)) _) | (refine Below.trans ?_ (Below.mono (by assumption) (by first | (simp; done) | omega | (simp; omega)))))); done))⟩
  | some a =>
    have HN := Lib.hid (fun j u h => cell_below ((Below.refl w.heap.size w).alloc (Nat.le_refl _) (.cells #[] 9)) (news9 ha j u h))
    have HL := Lib.hid (World.ownsRow_lit (e := 9) (size := 1) w #[] 0 (Nat.le_refl _) (by decide) rfl)
    have hlen : (vs l).length = l.length * 1 := by simp [vs]
    obtain ⟨M, hM⟩ : ∃ M, M = l.length := ⟨_, rfl⟩
    rw [← hM] at hlen hn ⊢
    obtain ⟨nw, hnw⟩ : ∃ nw, nw = vs l := ⟨_, rfl⟩
    have H1 := Lib.hid (show ∀ u ∈ vs l, u.oneCell' = true by intro u hu; simp only [vs, List.mem_map] at hu; obtain ⟨x, _, rfl⟩ := hu; rfl)
    rw [← hnw] at HN hlen H1 ⊢
    have HLN := Lib.hid hlen
    clear ha hnw hlen hM
    have kq := fun w' : World => Lib.run_eql_slice_nil (P := Tryd.prog) w' 23 9 (some a) M c 0 0 Tryd.underlying23
    go_enter Tryd.func49, Tryd.ntmps49
    go_wp2_with (at_builtin; refine wpList_append_own _ rfl (.tmp 5) (.tmp 6) 23 rfl w.heap.size 9 i0 _ 1 16 Tryd.underlying23 hi hz0 hz1 hz2 rfl (by decide) (.slice (some ⟨w.heap.size, 0, none⟩) 0 0) 0 [] rfl HL.out a M c nw rfl HLN.out HN.out H1.out (by unfold maxLen; omega) (by omega) (by rw [alloc_size]; omega) ?_; intro v1 w1 hown hg _; have HO1 := Lib.hid (show w1.ownsRow w.heap.size 9 1 v1 M nw by rw [Nat.zero_add] at hown; exact hown); have HB1 := Lib.hid (((Below.refl w.heap.size w).alloc (Nat.le_refl _) (.cells #[] 9)).trans ((Below.refl w.heap.size (w.alloc (.cells #[] 9))).grown hg (by rw [alloc_size]; omega) (fun k hk => (HL.out.lt k hk).1))); clear hown hg)
    go_ret
    obtain ⟨C, k, rfl⟩ := own_slice HO1.out
    exact ⟨C, k, rfl, HO1, HB1.out⟩
theorem cloneP_is (A : Option Addr) (l : List (ByteArray × ByteArray)) (c : Nat) (w : World) (ha : RdP w A l) (hn : l.length * 32 ≤ 140737488355328) :
    Calls Tryd.prog 48 #[.slice A l.length c] w fun e w' => ∃ C k, e = .returned (.slice C l.length k) ∧ RowKit.Hid (w'.ownsRow w.heap.size 44 2 (.slice C l.length k) l.length (psv l)) ∧ Below w.heap.size w w' := by
  obtain ⟨i0, hi, hz0, hz1, hz2⟩ := info_parts info44
  cases A with
  | none =>
    have hl : l = [] := by
      rcases ha with h | ⟨b, off, h, _⟩
      · exact h
      · cases h
    subst hl
    have kq := fun w' : World => Lib.run_eql_slice_nil (P := Tryd.prog) w' 22 44 none 0 c 0 0 Tryd.underlying22
    go_enter Tryd.func48, Tryd.ntmps48
    go_wp2
    go_ret
    exact ⟨none, 0, rfl, Lib.hid (World.ownsRow_nil _ _ _ _), (by ((repeat (first | exact Below.refl _ _ | (refine Below.drew ?_) | (refine Go.below_drewN ?_ _) | (refine Below.alloc ?_ (by first | (simp; done) | omega | (simp; omega)) _) | (refine Below.setCell ?_ (by first | (simp; done) | omega | (simp; omega)) _) | (refine Below.trans ?_ (Below.mono (by assumption) (by first | (simp; done) | omega | (simp; omega)))))); done))⟩
  | some a =>
    have HN := Lib.hid (fun j u h => cell_below ((Below.refl w.heap.size w).alloc (Nat.le_refl _) (.cells #[] 44)) (newsP ha j u h))
    have HL := Lib.hid (World.ownsRow_lit (e := 44) (size := 2) w #[] 0 (Nat.le_refl _) (by decide) rfl)
    have hlen : (psv l).length = l.length * 2 := psv_len l
    obtain ⟨M, hM⟩ : ∃ M, M = l.length := ⟨_, rfl⟩
    rw [← hM] at hlen hn ⊢
    obtain ⟨nw, hnw⟩ : ∃ nw, nw = psv l := ⟨_, rfl⟩
    have H1 := Lib.hid (show ∀ u ∈ psv l, u.oneCell' = true by intro u hu; simp only [psv, List.mem_flatMap] at hu; obtain ⟨x, _, hu⟩ := hu; simp at hu; rcases hu with rfl | rfl <;> rfl)
    rw [← hnw] at HN hlen H1 ⊢
    have HLN := Lib.hid hlen
    clear ha hnw hlen hM
    have kq := fun w' : World => Lib.run_eql_slice_nil (P := Tryd.prog) w' 22 44 (some a) M c 0 0 Tryd.underlying22
    go_enter Tryd.func48, Tryd.ntmps48
    go_wp2_with (at_builtin; refine wpList_append_own _ rfl (.tmp 5) (.tmp 6) 22 rfl w.heap.size 44 i0 _ 2 32 Tryd.underlying22 hi hz0 hz1 hz2 rfl (by decide) (.slice (some ⟨w.heap.size, 0, none⟩) 0 0) 0 [] rfl HL.out a M c nw rfl HLN.out HN.out H1.out (by unfold maxLen; omega) (by omega) (by rw [alloc_size]; omega) ?_; intro v1 w1 hown hg _; have HO1 := Lib.hid (show w1.ownsRow w.heap.size 44 2 v1 M nw by rw [Nat.zero_add] at hown; exact hown); have HB1 := Lib.hid (((Below.refl w.heap.size w).alloc (Nat.le_refl _) (.cells #[] 44)).trans ((Below.refl w.heap.size (w.alloc (.cells #[] 44))).grown hg (by rw [alloc_size]; omega) (fun k hk => (HL.out.lt k hk).1))); clear hown hg)
    go_ret
    obtain ⟨C, k, rfl⟩ := ownP_slice HO1.out
    exact ⟨C, k, rfl, HO1, HB1.out⟩
end Go.Proofs.YtdpgkihecpjijaaDoor.T
