import Derived.Test.YtojnhgeffnjndaaProg
import Derived.Test.YtojnhgeffnjndaaShelf
import Derived.Test.YtojnhgeffnjndaaSf
import Derived.WalkKit
import Derived.Outline
import Derived.WalkLawsBesides
import Derived.Deep.QuietTactic
import Derived.BigQuiet
import Derived.Lib.Hide
import Derived.Handy
import Derived.Deep.RegionHeld3
import Derived.Deep.DrawnRows
import Derived.Sort.OwnSorted
import Derived.Laws.AppendOwnNone
namespace Go.Proofs.Ytojnhgeffnjndaa.T
open Go Go.RowKit Mem Go.Great Go.Sort Go.Lib
set_option maxRecDepth 100000
set_option maxHeartbeats 8000000
set_option linter.unusedVariables false
set_option linter.unusedSimpArgs false

/-- All but s. -/
def wo (s : ByteArray) (l : List ByteArray) : List ByteArray := l.filter (fun x => !decide (x = s))
theorem wo_mem {s : ByteArray} {l : List ByteArray} {x : ByteArray} : x ∈ wo s l ↔ x ∈ l ∧ x ≠ s := by simp [wo]
theorem wo_len (s : ByteArray) (l : List ByteArray) : (wo s l).length ≤ l.length := List.length_filter_le _ _
theorem wo_srt {s : ByteArray} {l : List ByteArray} (h : Srt l) : Srt (wo s l) := srt_sub List.filter_sublist h

theorem rwithout_is (A : Option Addr) (l : List ByteArray) (s : ByteArray) (ca : Nat) (w : World) (ha : Rd w A l) (hn : l.length < 2 ^ 30) :
    Calls Try.prog 28 #[.slice A l.length ca, .string s] w fun e w' => ∃ C k, e = .returned (.slice C (wo s l).length k) ∧ RowKit.Hid (Rd w' C (wo s l)) ∧ Below w.heap.size w w' := by
  obtain ⟨i0, hi, hz0, hz1, hz2⟩ := info_parts info9
  go_enter Try.func28, Try.ntmps28
  have HA := Lib.hid ha
  clear ha
  go_wp2_with fail
  go_loopw [5, 6] (fun v i wr => ∃ (v0 : Value) (k n : Nat) (o : List ByteArray), v0 = v ∧ k ≤ l.length ∧ i = .int .i64 k ∧ n ≤ k ∧ RowKit.Hid (o.length = n) ∧ RowKit.Hid (wr.ownsRow w.heap.size 9 1 v0 n (vs o)) ∧ RowKit.Hid (Below w.heap.size w wr) ∧ RowKit.Hid (o = wo s (l.take k))) (fun _ i _ => l.length - (intOf i).toNat)
  case atStart => exact ⟨_, 0, 0, [], rfl, Nat.zero_le _, rfl, Nat.le_refl _, Lib.hid rfl, Lib.hid (World.ownsRow_nil _ _ _ _), Lib.hid (Below.refl _ _), Lib.hid (by simp [wo])⟩
  case round =>
    obtain ⟨v0, k, n, o, rfl, hk, rfl, hnk, hol, HO0, HB0, HS⟩ := hrel
    by_cases hlt : k < l.length
    · obtain ⟨b1, o1, rfl⟩ := HA.out.addr (by omega)
      have h0 := HA.out.cell hlt
      obtain ⟨x, hx⟩ : ∃ x, x = l[k] := ⟨_, rfl⟩
      rw [← hx] at h0
      have HX := Lib.hid hx
      clear hx
      have hx0 := cell_below HB0.out h0
      clear h0
      have hstep : wo s (l.take (k + 1)) = wo s (l.take k) ++ (if x = s then [] else [x]) := by
        rw [List.take_succ_eq_append_getElem hlt, ← HX.out]
        simp only [wo, List.filter_append, List.filter_cons, List.filter_nil]
        by_cases h : x = s <;> simp [h]
      have HSTEP := Lib.hid hstep
      clear hstep
      by_cases heq : x = s
      · have HE := Lib.hid heq
        have e2 : (!x.toList == s.toList) = false := by simp [heq]
        clear heq
        go_wp2
        exact ⟨⟨_, k + 1, n, o, rfl, by omega, by go_num, by omega, hol, HO0, HB0, Lib.hid (by rw [HSTEP.out, if_pos HE.out, List.append_nil, HS.out])⟩, by simp [intOf]; omega⟩
      · have HE := Lib.hid heq
        have e2 : (!x.toList == s.toList) = true := by simp; exact fun h => heq (ba_inj h)
        clear heq
        go_wp2_with (at_builtin; refine wpList_append_own _ rfl (.tmp 19) (.tmp 24) 22 rfl w.heap.size 9 i0 _ 1 16 Try.underlying22 hi hz0 hz1 hz2 rfl (by decide) v0 n (vs o) rfl (HO0.out.alloc _) ⟨wr.heap.size, 0, none⟩ 1 1 [.string x] rfl rfl (by intro j u hj; cases j with | zero => (simp at hj; subst hj; simp [Addr.add]) | succ => simp at hj) (by intro u hu; simp at hu; subst hu; rfl) (by unfold maxLen; omega) (by omega) (by have := (HB0.out).size; rw [alloc_size]; omega) ?_; intro v1 w1 hown hg _; have HO1 := Lib.hid (push_row hown); have HB1 := Lib.hid (push_below HB0.out HO0.out hg);  clear hown hg)
        exact ⟨⟨_, k + 1, n + 1, o ++ [x], rfl, by omega, by go_num, by omega, Lib.hid (by simp [hol.out]), HO1, HB1, Lib.hid (by rw [HSTEP.out, if_neg HE.out, HS.out])⟩, by simp [intOf]; omega⟩
    · have hkl : k = l.length := by omega
      have e : wo s l = o := by rw [HS.out, hkl, List.take_length]
      have hon := hol.out
      subst hon
      have HE := Lib.hid e
      clear hkl e
      obtain ⟨C, kk, rfl⟩ := own_slice HO0.out
      go_wp2
      go_ret
      rw [HE.out]
      first | exact ⟨C, kk, rfl, Lib.hid (own_rd HO0.out).1, HB0.out⟩ | exact ⟨C, ⟨kk, rfl⟩, Lib.hid (own_rd HO0.out).1, HB0.out⟩

/-- slices.Clone of any list of texts -/
theorem clone_is (A : Option Addr) (l : List ByteArray) (c : Nat) (w : World) (ha : Rd w A l) (hn : l.length < 2 ^ 42) :
    Calls Try.prog 29 #[.slice A l.length c] w fun e w' => ∃ C k, e = .returned (.slice C l.length k) ∧ RowKit.Hid (w'.ownsRow w.heap.size 9 1 (.slice C l.length k) l.length (vs l)) ∧ Below w.heap.size w w' := by
  cases A with
  | none =>
    have hl : l = [] := by
      rcases ha with h | ⟨b, off, h, _⟩
      · exact h
      · cases h
    subst hl
    refine (Try.slices_Clone_string_nil 0 c w).mono ?_
    rintro e w1 ⟨rfl, rfl⟩
    exact ⟨none, 0, rfl, Lib.hid (World.ownsRow_nil _ _ _ _), Below.refl _ _⟩
  | some a =>
    rcases ha with rfl | ⟨b, off, e, hc⟩
    · refine (Try.slices_Clone_string_zero a c w).mono ?_
      rintro e w1 ⟨v', rfl, hown, hne, hb⟩
      obtain ⟨g, cap, rfl, h1, h2, h3, h4⟩ := own_slice1 hown hne
      exact ⟨_, cap, rfl, hown, hb⟩
    · injection e with e; subst e
      refine (Try.slices_Clone_string b off l.length c l w (Nat.le_refl _) (by omega) (fun j hj => by have := hc j l[j] (List.getElem?_eq_getElem hj); rw [this]; simp [hj])).mono ?_
      rintro e w1 ⟨v', rfl, hown, hne, hb⟩
      obtain ⟨g, cap, rfl, h1, h2, h3, h4⟩ := own_slice1 hown hne
      refine ⟨_, cap, rfl, ?_, hb⟩
      rw [List.take_length] at hown
      exact hown
end Go.Proofs.Ytojnhgeffnjndaa.T
