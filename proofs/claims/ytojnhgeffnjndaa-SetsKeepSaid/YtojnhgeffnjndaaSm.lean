import Derived.Test.YtojnhgeffnjndaaProg
import Derived.Test.YtojnhgeffnjndaaShelf
import Derived.Test.YtojnhgeffnjndaaSl
import Derived.WalkKit
import Derived.Outline
import Derived.WalkLawsBesides
import Derived.Deep.QuietTactic
import Derived.BigQuiet
import Derived.Lib.Hide
import Derived.Handy
import Derived.Deep.RegionHeld3
import Derived.Deep.DrawnRows
import Derived.Shelf.Spec.SlicesInsertGrow
import Derived.Sort.OwnSorted
import Derived.Laws.AppendOwnNone
namespace Go.Proofs.Ytojnhgeffnjndaa.T
open Go Go.RowKit Mem Go.Great Go.Sort Go.Lib
set_option maxRecDepth 100000
set_option maxHeartbeats 8000000
set_option linter.unusedVariables false
set_option linter.unusedSimpArgs false


theorem put_srt {l : List ByteArray} {s : ByteArray} {k : Nat} (hs : Srt l) (hk : k ≤ l.length) (hm : s ∉ l) (h1 : ∀ t, t < k → (l.getD t s).toList < s.toList) (h2 : ∀ t, k ≤ t → ¬ (l.getD t s).toList < s.toList) :
    Srt (l.take k ++ s :: l.drop k) ∧ ∀ x, x ∈ l.take k ++ s :: l.drop k ↔ x ∈ l ∨ x = s := by
  have hlo : ∀ x ∈ l.take k, x.toList < s.toList := fun x hx => by
    obtain ⟨j, hj, rfl⟩ := List.getElem_of_mem hx
    have hjk : j < k := by have := hj; simp at this; omega
    have := h1 j hjk
    rw [List.getElem_take]; simpa [show j < l.length by omega] using this
  have hhi : ∀ x ∈ l.drop k, s.toList < x.toList := fun x hx => by
    obtain ⟨j, hj, rfl⟩ := List.getElem_of_mem hx
    have hjl : k + j < l.length := by have := hj; simp at this; omega
    have h3 := h2 (k + j) (by omega)
    rw [List.getElem_drop]
    have h4 : ¬ (l[k + j]).toList < s.toList := by simpa [hjl] using h3
    exact lt_or h4 (fun e => hm (e ▸ List.getElem_mem hjl))
  refine ⟨List.pairwise_append.2 ⟨srt_sub (List.take_sublist _ _) hs, List.pairwise_cons.2 ⟨hhi, srt_sub (List.drop_sublist _ _) hs⟩, fun x hx y hy => ?_⟩, fun x => ?_⟩
  · rcases List.mem_cons.1 hy with rfl | hy
    · exact hlo x hx
    · exact ltt (hlo x hx) (hhi y hy)
  · have := List.take_append_drop k l
    conv => rhs; rw [← this]
    simp; grind

theorem with_is (A : Option Addr) (l : List ByteArray) (s : ByteArray) (c : Nat) (w : World) (ha : Rd w A l) (hs : Srt l) (hn : l.length < 2 ^ 29) :
    Calls Try.prog 25 #[.slice A l.length c, .string s] w fun e w' => ∃ (r : List ByteArray) (C : Option Addr) (k : Nat), e = .returned (.slice C r.length k) ∧ RowKit.Hid (Srt r ∧ (∀ x, x ∈ r ↔ x ∈ l ∨ x = s) ∧ r.length ≤ l.length + 1) ∧ RowKit.Hid (Rd w' C r) ∧ Below w.heap.size w w' := by
  have HA := Lib.hid ha
  by_cases hm : s ∈ l
  · have HS := Lib.hid (search_yes A l c s w ha hs (by omega) hm)
    have HM := Lib.hid (And.intro hs hm)
    clear ha hs hm
    go_enter Try.func25, Try.ntmps25
    go_wp2_with (first
      | (go_at_call 37; refine HS.out.mono ?_; rintro e w1 ⟨k, rfl, hk, hks, hb1⟩; have HB1 := Lib.hid hb1; clear hks hb1)
      | (go_at_call 29; refine (clone_is A l c w1 (HA.out.below HB1.out) (by omega)).mono ?_; rintro e w2 ⟨C, c2, rfl, hown, hb2⟩; have HB2 := Lib.hid hb2; clear hb2))
    go_ret
    exact ⟨l, C, c2, rfl, Lib.hid ⟨HM.out.1, fun x => ⟨.inl, fun h => h.elim id fun e => e ▸ HM.out.2⟩, by omega⟩, Lib.hid (own_rd hown.out).1, HB1.out.trans (HB2.out.mono HB1.out.size)⟩
  · have HS := Lib.hid (search_no A l c s w ha hs (by omega) hm)
    have HM := Lib.hid (And.intro hs hm)
    clear ha hs hm
    go_enter Try.func25, Try.ntmps25
    go_wp2_with (first
      | (go_at_call 37; refine HS.out.mono ?_; rintro e w1 ⟨k, rfl, hk, h1, h2, hb1⟩; have HB1 := Lib.hid hb1; have H12 := Lib.hid (And.intro h1 h2); clear hb1 h1 h2)
      | (go_at_call 29; refine (clone_is A l c w1 (HA.out.below HB1.out) (by omega)).mono ?_; rintro e w2 ⟨C, c2, rfl, hown, hb2⟩; have HB2 := Lib.hid hb2; clear hb2)
      | (go_at_call 38; refine (insert_is C c2 k l s w1.heap.size w2 hown.out (by omega) hk HB2.out.size).mono ?_; rintro e w3 ⟨D, c3, rfl, hrd, hb3⟩; have HRD := Lib.hid hrd; have HB3 := Lib.hid hb3; clear hrd hb3))
    go_ret
    have hp := put_srt HM.out.1 hk HM.out.2 H12.out.1 H12.out.2
    have hl : (l.take k ++ s :: l.drop k).length = l.length + 1 := by simp; omega
    rw [← hl]
    exact ⟨_, D, c3, rfl, Lib.hid ⟨hp.1, hp.2, by omega⟩, HRD, HB1.out.trans ((HB2.out.mono HB1.out.size).trans (HB3.out.mono HB1.out.size))⟩
end Go.Proofs.Ytojnhgeffnjndaa.T
