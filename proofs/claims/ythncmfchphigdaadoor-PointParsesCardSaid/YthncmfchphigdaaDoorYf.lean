/- What a decoded rune's bytes are: no program in sight. -/
import Derived.WalkKit
import Derived.Laws.RangeAny
import Derived.Laws.Cover4
import Derived.Lib.IndexAny
namespace Go.Proofs.YthncmfchphigdaaDoor.Own
open Go
set_option linter.unusedVariables false
set_option linter.unusedSimpArgs false

/-- The bytes of a rune that is no ASCII's are none. -/
theorem decode_span {s : ByteArray} {p : Nat} (h : p < s.size) (ha : 128 ≤ (s[p]'h).toNat) : p + (Utf8.decode s p).2 ≤ s.size ∧ ∀ (j : Nat) (hj : j < s.size), p ≤ j → j < p + (Utf8.decode s p).2 → 128 ≤ (s[j]'hj).toNat := by
  have hn : ¬ (s[p]'h).toNat < 128 := by omega
  have one : ∀ (j : Nat) (hj : j < s.size), p ≤ j → j < p + 1 → 128 ≤ (s[j]'hj).toNat := by
    intro j hj h1 h2
    obtain rfl : j = p := by omega
    exact ha
  have cont : ∀ k, (decide (p + k < s.size) && ((s.get! (p + k)).toNat / 64 == 2)) = true → ∃ hk : p + k < s.size, 128 ≤ (s[p + k]'hk).toNat := by
    intro k hk
    simp only [Bool.and_eq_true, decide_eq_true_eq, beq_iff_eq] at hk
    refine ⟨hk.1, ?_⟩
    have := get_at s (p + k) hk.1
    rw [Nat.add_zero] at this
    rw [this] at hk
    omega
  simp only [Utf8.decode, get_at s p h, hn, if_false]
  split
  · rename_i h1
    simp only [Bool.and_eq_true] at h1
    obtain ⟨k1, q1⟩ := cont 1 (by simpa using h1.2)
    split
    · refine ⟨by simp; omega, fun j hj a b => ?_⟩
      simp only at b
      rcases (show j = p ∨ j = p + 1 by omega) with rfl | rfl
      · exact ha
      · exact q1
    · exact ⟨by simp; omega, one⟩
  split
  · rename_i h1
    simp only [Bool.and_eq_true] at h1
    obtain ⟨k1, q1⟩ := cont 1 (by simpa using h1.1.2)
    obtain ⟨k2, q2⟩ := cont 2 (by simpa using h1.2)
    split
    · refine ⟨by simp; omega, fun j hj a b => ?_⟩
      simp only at b
      rcases (show j = p ∨ j = p + 1 ∨ j = p + 2 by omega) with rfl | rfl | rfl
      · exact ha
      · exact q1
      · exact q2
    · exact ⟨by simp; omega, one⟩
  split
  · rename_i h1
    simp only [Bool.and_eq_true] at h1
    obtain ⟨k1, q1⟩ := cont 1 (by simpa using h1.1.1.2)
    obtain ⟨k2, q2⟩ := cont 2 (by simpa using h1.1.2)
    obtain ⟨k3, q3⟩ := cont 3 (by simpa using h1.2)
    split
    · refine ⟨by simp; omega, fun j hj a b => ?_⟩
      simp only at b
      rcases (show j = p ∨ j = p + 1 ∨ j = p + 2 ∨ j = p + 3 by omega) with rfl | rfl | rfl | rfl
      · exact ha
      · exact q1
      · exact q2
      · exact q3
    · exact ⟨by simp; omega, one⟩
  · exact ⟨by simp; omega, one⟩
end Go.Proofs.YthncmfchphigdaaDoor.Own
