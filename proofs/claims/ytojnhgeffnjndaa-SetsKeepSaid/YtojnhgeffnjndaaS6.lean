import Derived.Test.YtojnhgeffnjndaaProg
import Derived.Test.YtojnhgeffnjndaaShelf
import Derived.Test.YtojnhgeffnjndaaS5
import Derived.WalkKit
import Derived.Outline
import Derived.WalkLawsBesides
import Derived.Deep.QuietTactic
import Derived.BigQuiet
import Derived.Lib.Hide
import Derived.Handy
import Derived.Deep.RegionHeld3
import Derived.Deep.DrawnRows
import Derived.Sort.OwnSorted
namespace Go.Proofs.Ytojnhgeffnjndaa.T
open Go Go.RowKit Mem Go.Great Go.Sort Go.Lib
set_option maxRecDepth 100000
set_option maxHeartbeats 8000000
set_option linter.unusedVariables false
set_option linter.unusedSimpArgs false

theorem bs_is (b off n c : Nat) (Sx : Nat → ByteArray) (x : ByteArray) (w : World) (hbig : n < 4611686018427387904) (hc : ∀ j, j < n → w.cell? ⟨b, off + j, none⟩ = some (.string (Sx j))) :
    Calls Try.prog 37 #[.slice (some ⟨b, off, none⟩) n c, .string x] w fun e w' =>
      e = .returned (.tuple #[.int .i64 (Lib.bsGo (fun t => Op.bytesLess (Sx t).toList x.toList) n 0 n : Nat), .bool (decide (Lib.bsGo (fun t => Op.bytesLess (Sx t).toList x.toList) n 0 n < n ∧ Sx (Lib.bsGo (fun t => Op.bytesLess (Sx t).toList x.toList) n 0 n) = x))]) ∧ ∃ q, w' = w.drewN q :=
  Any2.slices_BinarySearch_string Try.laysNm226 b off n c Sx x w hbig hc
theorem bs_none (a : Option Addr) (c : Nat) (x : ByteArray) (w : World) :
    Calls Try.prog 37 #[.slice a 0 c, .string x] w fun e w' => e = .returned (.tuple #[.int .i64 0, .bool false]) ∧ w' = w :=
  Any2.slices_BinarySearch_string_empty Try.laysNm226 a c x w

/-- Where a text stands, or would stand, in a set. -/
theorem place : ∀ (l : List ByteArray) (s : ByteArray), Srt l → ∃ k, k ≤ l.length ∧ (∀ t, t < k → (l.getD t s).toList < s.toList) ∧ (∀ t, k ≤ t → ¬ (l.getD t s).toList < s.toList)
  | [], s, _ => ⟨0, Nat.le_refl _, fun t h => absurd h (Nat.not_lt_zero _), fun t _ => by simp⟩
  | x :: l, s, h => by
    by_cases hx : x.toList < s.toList
    · obtain ⟨k, hk, h1, h2⟩ := place l s (srt_tail h)
      refine ⟨k + 1, by simp; omega, fun t ht => ?_, fun t ht => ?_⟩
      · cases t with
        | zero => simpa using hx
        | succ t => simpa using h1 t (by omega)
      · cases t with
        | zero => omega
        | succ t => simpa using h2 t (by omega)
    · refine ⟨0, Nat.zero_le _, fun t h => absurd h (Nat.not_lt_zero _), fun t _ => ?_⟩
      cases t with
      | zero => simpa using hx
      | succ t =>
        by_cases ht : t < l.length
        · intro hh
          have hh' : l[t].toList < s.toList := by simpa [ht] using hh
          exact hx (ltt (srt_head h l[t] (List.getElem_mem ht)) hh')
        · have : (x :: l).getD (t + 1) s = s := by simp [List.getD]; rw [List.getElem?_eq_none (by omega)]; rfl
          rw [this]; exact lti _

theorem place_mem {l : List ByteArray} {s : ByteArray} {k : Nat} (hs : Srt l) (hk : k ≤ l.length) (h1 : ∀ t, t < k → (l.getD t s).toList < s.toList) (h2 : ∀ t, k ≤ t → ¬ (l.getD t s).toList < s.toList) :
    (k < l.length ∧ l.getD k s = s) ↔ s ∈ l := by
  constructor
  · rintro ⟨h, e⟩
    have : l[k] = s := by simpa [h] using e
    rw [← this]; exact List.getElem_mem h
  · intro hm
    obtain ⟨j, hj, e⟩ := List.getElem_of_mem hm
    have hjk : k ≤ j := by
      rcases Nat.lt_or_ge j k with h | h
      · have := h1 j h
        rw [show l.getD j s = s by simp [hj, e]] at this
        exact absurd this (lti _)
      · exact h
    have hkl : k < l.length := by omega
    rcases Nat.lt_or_eq_of_le hjk with h | rfl
    · have h3 := (List.pairwise_iff_getElem.1 hs) k j hkl hj h
      rw [e] at h3
      exact absurd (by simpa [hkl] using h3) (h2 k (Nat.le_refl _))
    · exact ⟨hj, by simp [hj, e]⟩

/-- slices.BinarySearch in a set -/
theorem search_is (A : Option Addr) (l : List ByteArray) (c : Nat) (s : ByteArray) (w : World) (ha : Rd w A l) (hs : Srt l) (hn : l.length < 2 ^ 42) :
    Calls Try.prog 37 #[.slice A l.length c, .string s] w fun e w' => ∃ (k : Nat) (r : Bool), e = .returned (.tuple #[.int .i64 k, .bool r]) ∧ k ≤ l.length ∧ (∀ t, t < k → (l.getD t s).toList < s.toList) ∧ (∀ t, k ≤ t → ¬ (l.getD t s).toList < s.toList) ∧ (r = true ↔ s ∈ l) ∧ (r = true → k < l.length ∧ l.getD k s = s) ∧ Below w.heap.size w w' := by
  rcases ha with rfl | ⟨b, off, rfl, hc⟩
  · refine (bs_none A c s w).mono ?_
    rintro e w1 ⟨rfl, rfl⟩
    exact ⟨0, false, rfl, Nat.zero_le _, fun t h => absurd h (Nat.not_lt_zero _), fun t _ => by simp, by simp, by simp, Below.refl _ _⟩
  · obtain ⟨k, hk, h1, h2⟩ := place l s hs
    refine (bs_is b off l.length c (fun i => l.getD i s) s w (by omega) (fun j hj => by rw [hc j l[j] (List.getElem?_eq_getElem hj)]; simp [hj])).mono ?_
    rintro e w1 ⟨rfl, q, rfl⟩
    have hbs : Lib.bsGo (fun t => Op.bytesLess (l.getD t s).toList s.toList) l.length 0 l.length = k :=
      Lib.bsGo_spec _ k (fun t ht => by rw [bytesLess_eq]; simpa using h1 t ht) (fun t ht => by rw [bytesLess_eq]; simpa using h2 t ht) _ _ _ (by omega) (Nat.zero_le _) hk
    rw [hbs]
    exact ⟨k, _, rfl, hk, h1, h2, by rw [decide_eq_true_iff]; exact place_mem hs hk h1 h2, fun h => by simpa using h, (Below.refl _ _).trans_drewN q⟩

theorem has_is (A : Option Addr) (l : List ByteArray) (c : Nat) (s : ByteArray) (w : World) (ha : Rd w A l) (hs : Srt l) (hn : l.length < 2 ^ 42) :
    Calls Try.prog 23 #[.slice A l.length c, .string s] w fun e w' => ∃ r : Bool, e = .returned (.bool r) ∧ (r = true ↔ s ∈ l) ∧ Below w.heap.size w w' := by
  go_enter Try.func23, Try.ntmps23
  have HS := Lib.hid (search_is A l c s w ha hs hn)
  clear ha hs
  go_wp2_with (go_at_call 37; refine HS.out.mono ?_; rintro e w1 ⟨k, r, rfl, _, _, _, hr, _, hb⟩; have HR := Lib.hid (And.intro hr hb); clear hr hb)
  go_ret
  exact ⟨r, rfl, HR.out.1, HR.out.2⟩

theorem rd_lit (w : World) (l : List ByteArray) : Rd (w.alloc (.cells (vs l).toArray 9)) (some ⟨w.heap.size, 0, none⟩) l :=
  .inr ⟨w.heap.size, 0, rfl, fun i x hx => by
    rw [cell_of_row _ _ _ _ 9 (0, 0) (heap_alloc_new w _)]
    simp [vs, hx]⟩
theorem Rd.alloc {w : World} {A : Option Addr} {l : List ByteArray} (h : Rd w A l) (o : Obj) : Rd (w.alloc o) A l := h.below ((Below.refl _ _).alloc (Nat.le_refl _) o)
end Go.Proofs.Ytojnhgeffnjndaa.T
