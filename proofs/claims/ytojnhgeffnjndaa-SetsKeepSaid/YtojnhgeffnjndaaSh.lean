import Derived.Test.YtojnhgeffnjndaaProg
import Derived.Test.YtojnhgeffnjndaaShelf
import Derived.Test.YtojnhgeffnjndaaSg
import Derived.WalkKit
import Derived.Outline
import Derived.WalkLawsBesides
import Derived.Deep.QuietTactic
import Derived.BigQuiet
import Derived.Lib.Hide
import Derived.Handy
import Derived.Deep.RegionHeld3
import Derived.Deep.DrawnRows
import Derived.Sort.OwnSorted
import Derived.Laws.AppendOwnNone
namespace Go.Proofs.Ytojnhgeffnjndaa.T
open Go Go.RowKit Mem Go.Great Go.Sort Go.Lib
set_option maxRecDepth 100000
set_option maxHeartbeats 8000000
set_option linter.unusedVariables false
set_option linter.unusedSimpArgs false

theorem srt_parts {l : List ByteArray} {k : Nat} (hs : Srt l) (hk : k < l.length) : (∀ x ∈ l.take k, x.toList < (l[k]).toList) ∧ (∀ x ∈ l.drop (k + 1), (l[k]).toList < x.toList) := by
  constructor
  · intro x hx
    obtain ⟨j, hj, rfl⟩ := List.getElem_of_mem hx
    have hjk : j < k := by have := hj; simp at this; omega
    rw [List.getElem_take]
    exact (List.pairwise_iff_getElem.1 hs) j k (by omega) hk hjk
  · intro x hx
    obtain ⟨j, hj, rfl⟩ := List.getElem_of_mem hx
    have hjk : k + 1 + j < l.length := by have := hj; simp at this; omega
    rw [List.getElem_drop]
    exact (List.pairwise_iff_getElem.1 hs) k (k + 1 + j) hk hjk (by omega)

theorem wo_cut {l : List ByteArray} {s : ByteArray} {k : Nat} (hs : Srt l) (hk : k < l.length) (he : l[k] = s) : l.take k ++ l.drop (k + 1) = wo s l := by
  have hp := srt_parts hs hk
  have hne1 : ∀ x ∈ l.take k, ¬ x = s := fun x hx e => by have := hp.1 x hx; rw [he, e] at this; exact lti _ this
  have hne2 : ∀ x ∈ l.drop (k + 1), ¬ x = s := fun x hx e => by have := hp.2 x hx; rw [he, e] at this; exact lti _ this
  have hl : l = l.take k ++ (l[k] :: l.drop (k + 1)) := by rw [← List.drop_eq_getElem_cons hk, List.take_append_drop]
  conv => rhs; rw [hl]
  unfold wo
  rw [List.filter_append, List.filter_cons, List.filter_eq_self.2 (fun x hx => by simpa using hne1 x hx), List.filter_eq_self.2 (fun x hx => by simpa using hne2 x hx)]
  simp [he]
theorem wo_none {l : List ByteArray} {s : ByteArray} (h : s ∉ l) : wo s l = l := List.filter_eq_self.2 fun x hx => by simp; exact fun e => h (e ▸ hx)

/-- slices.Delete of one place, of a row of the call's own -/
theorem delete_is (B g cap k : Nat) (l : List ByteArray) (w : World) (h : w.ownsRow B 9 1 (.slice (some ⟨g, 0, none⟩) l.length cap) l.length (vs l)) (hk : k < l.length) :
    Calls Try.prog 39 #[.slice (some ⟨g, 0, none⟩) l.length cap, .int .i64 k, .int .i64 ((k : Int) + 1)] w fun e w' => e = .returned (.slice (some ⟨g, 0, none⟩) (l.length - 1) cap) ∧ Rd w' (some ⟨g, 0, none⟩) (l.take k ++ l.drop (k + 1)) ∧ (∀ j, w'.frozen? ⟨g, j, none⟩ = false) ∧ Below g w w' := by
  obtain ⟨cur, hB, hb, hnc, hcm, hsz, htk⟩ := own_block h
  have hcell : ∀ i, i < l.length → w.cell? ⟨g, 0 + i, none⟩ = some (.string (l.getD i ByteArray.empty)) := fun i hi => by
    rw [Nat.zero_add, h.cellAt i (by omega)]; simp [vs, hi]
  have hc := Try.slices_Delete_string_cells g 0 l.length cap k (k + 1) (fun i => l.getD i ByteArray.empty) w hnc (by unfold maxLen at hcm; omega) (by omega) (by omega) hcell (fun j _ => h.frozenAt _)
  have hso : strsOf (fun i => l.getD i ByteArray.empty) l.length = l.map ByteArray.toList := by
    apply List.ext_getElem
    · simp [strsOf]
    · intro i h1 h2
      have hi : i < l.length := by simpa using h2
      simp [strsOf, hi, data_eq]
  rw [hso] at hc
  have hc' : Calls Try.prog 39 #[.slice (some ⟨g, 0, none⟩) l.length cap, .int .i64 k, .int .i64 ((k : Int) + 1)] w _ := hc
  refine hc'.mono ?_
  rintro e w' ⟨rfl, q, rfl⟩
  refine ⟨by rw [show l.length - (k + 1 - k) = l.length - 1 by omega], ?_, fun j => ?_, below_cells g (Nat.le_refl _) _ _ ((Below.refl _ _).trans_drewN q)⟩
  · refine .inr ⟨g, 0, rfl, fun i x hx => ?_⟩
    have hi : i < (l.take k ++ l.drop (k + 1)).length := (List.getElem?_eq_some_iff.1 hx).1
    have hil : i < l.length - 1 := by simp at hi; omega
    obtain ⟨R, hR⟩ : ∃ R, R = (((l.map ByteArray.toList).take k ++ (l.map ByteArray.toList).drop (k + 1) ++ List.replicate (k + 1 - k) []).map encStr) := ⟨_, rfl⟩
    have hlen : R.length = l.length := by rw [hR]; simp; omega
    have := World.cell?_setCells_in g R 0 (w.drewN q) (fun j hj => by
      rw [hlen] at hj
      have := hcell j hj
      show (w.cell? _).isSome = true
      rw [this]; rfl) i (by rw [hlen]; omega)
    rw [← hR, this]
    congr 1
    have hRi : R[i]? = some (.string x) := by
      rw [hR, List.map_append, List.getElem?_append_left (by simp; omega), ← List.map_take, ← List.map_drop, ← List.map_append, List.map_map, List.getElem?_map, hx]
      simp [encStr, ← data_eq]
    have := List.getElem?_eq_getElem (l := R) (i := i) (by rw [hlen]; omega)
    rw [hRi] at this
    exact (Option.some.inj this).symm
  · rw [World.frozen?_setCells]; exact h.frozenAt j

theorem own_addr {w : World} {B n c : Nat} {C : Option Addr} {xs : List Value} (h : w.ownsRow B 9 1 (.slice C n c) n xs) (hn : 0 < n) : ∃ g, C = some ⟨g, 0, none⟩ := by
  rcases h.2 with ⟨_, h0⟩ | ⟨g, cap, cur, e, _⟩
  · omega
  · injection e with e; exact ⟨g, e⟩

theorem search_yes (A : Option Addr) (l : List ByteArray) (c : Nat) (s : ByteArray) (w : World) (ha : Rd w A l) (hs : Srt l) (hn : l.length < 2 ^ 42) (hm : s ∈ l) :
    Calls Try.prog 37 #[.slice A l.length c, .string s] w fun e w' => ∃ (k : Nat), e = .returned (.tuple #[.int .i64 k, .bool true]) ∧ k < l.length ∧ l.getD k s = s ∧ Below w.heap.size w w' :=
  (search_is A l c s w ha hs hn).mono fun e w' ⟨k, r, he, _, _, _, hr, hr2, hb⟩ => by
    obtain rfl : r = true := hr.2 hm
    exact ⟨k, he, (hr2 rfl).1, (hr2 rfl).2, hb⟩
theorem search_no (A : Option Addr) (l : List ByteArray) (c : Nat) (s : ByteArray) (w : World) (ha : Rd w A l) (hs : Srt l) (hn : l.length < 2 ^ 42) (hm : s ∉ l) :
    Calls Try.prog 37 #[.slice A l.length c, .string s] w fun e w' => ∃ (k : Nat), e = .returned (.tuple #[.int .i64 k, .bool false]) ∧ k ≤ l.length ∧ (∀ t, t < k → (l.getD t s).toList < s.toList) ∧ (∀ t, k ≤ t → ¬ (l.getD t s).toList < s.toList) ∧ Below w.heap.size w w' :=
  (search_is A l c s w ha hs hn).mono fun e w' ⟨k, r, he, h1, h2, h3, hr, hr2, hb⟩ => by
    obtain rfl : r = false := by
      cases r with
      | false => rfl
      | true => exact absurd (hr.1 rfl) hm
    exact ⟨k, he, h1, h2, h3, hb⟩

theorem without_is (A : Option Addr) (l : List ByteArray) (s : ByteArray) (c : Nat) (w : World) (ha : Rd w A l) (hs : Srt l) (hn : l.length < 2 ^ 30) :
    Calls Try.prog 27 #[.slice A l.length c, .string s] w fun e w' => ∃ C k, e = .returned (.slice C (wo s l).length k) ∧ RowKit.Hid (Rd w' C (wo s l)) ∧ Below w.heap.size w w' := by
  have HA := Lib.hid ha
  by_cases hm : s ∈ l
  · have HS := Lib.hid (search_yes A l c s w ha hs (by omega) hm)
    have HSR := Lib.hid hs
    clear ha hs hm
    go_enter Try.func27, Try.ntmps27
    go_wp2_with (first
      | (go_at_call 37; refine HS.out.mono ?_; rintro e w1 ⟨k, rfl, hk, hks, hb1⟩; have HK := Lib.hid hks; have HB1 := Lib.hid hb1; clear hks hb1)
      | (go_at_call 29; refine (clone_is A l c w1 (HA.out.below HB1.out) (by omega)).mono ?_; rintro e w2 ⟨C, c2, rfl, hown, hb2⟩; have HB2 := Lib.hid hb2; clear hb2; obtain ⟨g, rfl⟩ := own_addr hown.out (by omega))
      | (go_at_call 39; refine (delete_is _ g c2 k l w2 hown.out hk).mono ?_; rintro e w3 ⟨rfl, hrd, _, hb3⟩; have HRD := Lib.hid hrd; have HB3 := Lib.hid hb3; clear hrd hb3))
    go_ret
    have hks : l[k] = s := by have := HK.out; simpa [hk] using this
    have hw := wo_cut HSR.out hk hks
    have hl : (wo s l).length = l.length - 1 := by rw [← hw]; simp; omega
    rw [hl]
    have hg := (hown.out.lt g rfl).1
    exact ⟨_, c2, rfl, Lib.hid (by rw [← hw]; exact HRD.out), HB1.out.trans (HB2.out.mono HB1.out.size |>.trans (HB3.out.mono (Nat.le_trans HB1.out.size hg)))⟩
  · have HS := Lib.hid (search_no A l c s w ha hs (by omega) hm)
    have HW := Lib.hid (wo_none hm)
    clear ha hs hm
    go_enter Try.func27, Try.ntmps27
    go_wp2_with (first
      | (go_at_call 37; refine HS.out.mono ?_; rintro e w1 ⟨k, rfl, hk, _, _, hb1⟩; have HB1 := Lib.hid hb1; clear hb1)
      | (go_at_call 29; refine (clone_is A l c w1 (HA.out.below HB1.out) (by omega)).mono ?_; rintro e w2 ⟨C, c2, rfl, hown, hb2⟩; have HB2 := Lib.hid hb2; clear hb2))
    go_ret
    rw [HW.out]
    exact ⟨C, c2, rfl, Lib.hid (own_rd hown.out).1, HB1.out.trans (HB2.out.mono HB1.out.size)⟩
end Go.Proofs.Ytojnhgeffnjndaa.T
