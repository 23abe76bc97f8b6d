import Derived.Test.YtgakeclocbfnpaaDoorProg
import Derived.Test.YtgakeclocbfnpaaDoorShelf
import Derived.Test.YtgakeclocbfnpaaDoorMem
import Derived.Test.YtgakeclocbfnpaaDoorTa
import Derived.Test.YtgakeclocbfnpaaDoorTa2
import Derived.Test.YtgakeclocbfnpaaDoorTb
import Derived.Test.YtgakeclocbfnpaaDoorTc
import Derived.Test.YtgakeclocbfnpaaDoorTd
import Derived.Test.YtgakeclocbfnpaaDoorTe
import Derived.Test.YtgakeclocbfnpaaDoorTf
import Derived.Test.YtgakeclocbfnpaaDoorTg
import Derived.Test.YtgakeclocbfnpaaDoorTh
import Derived.Test.YtgakeclocbfnpaaDoorTi
import Derived.Test.YtgakeclocbfnpaaDoorTja
import Derived.Test.YtgakeclocbfnpaaDoorTj
import Derived.Test.YtgakeclocbfnpaaDoorTka
import Derived.Test.YtgakeclocbfnpaaDoorTkb
import Derived.WalkKit
import Derived.Outline
import Derived.WalkLawsBesides
import Derived.Deep.QuietTactic
import Derived.BigQuiet
import Derived.Lib.Hide
import Derived.Handy
import Derived.Deep.RegionHeld3
import Derived.Deep.DrawnRows
import Derived.KernelRfl
import Derived.Great.Walk
import Derived.Test.YtgakeclocbfnpaaDoorOwn
namespace Go.Proofs.YtgakeclocbfnpaaDoor.T
open Go Go.RowKit Mem Own
set_option maxRecDepth 100000
set_option maxHeartbeats 1000000
set_option linter.unusedVariables false
set_option linter.unusedSimpArgs false

/-- Is the argument number j a key? -/
def pick (l : List ByteArray) (j : Nat) : Prop :=
  (chk l).2 = 0 ∧ 0 < (chk l).1.first ∧ (chk l).1.first ≤ j ∧ ((j : Int) ≤ (chk l).1.last ∨ (chk l).1.last = -1) ∧ ((j : Int) - (chk l).1.first) % (chk l).1.step = 0
instance (l : List ByteArray) (j : Nat) : Decidable (pick l j) := by unfold pick; exact inferInstance
def keyUpTo (l : List ByteArray) : Nat → List ByteArray
  | 0 => []
  | j + 1 => keyUpTo l j ++ (if pick l j then (l[j]?).toList else [])
def keysOf (l : List ByteArray) : List ByteArray := keyUpTo l l.length
theorem keyUpTo_len (l : List ByteArray) : ∀ k, (keyUpTo l k).length ≤ k
  | 0 => Nat.le_refl _
  | k + 1 => by
    have := keyUpTo_len l k
    unfold keyUpTo
    rw [List.length_append]
    split
    · cases l[k]? <;> simp <;> omega
    · simp; omega
theorem keyUpTo_one (l : List ByteArray) : keyUpTo l 1 = [] := by
  unfold keyUpTo keyUpTo
  rw [if_neg]
  · rfl
  · rintro ⟨_, h1, h2, _⟩; omega
theorem key_yes {l : List ByteArray} {k : Nat} (hp : pick l k) (hk : k < l.length) : keyUpTo l (k + 1) = keyUpTo l k ++ [l[k]] := by
  conv => lhs; unfold keyUpTo
  rw [if_pos hp, List.getElem?_eq_getElem hk]; rfl
theorem key_no {l : List ByteArray} {k : Nat} (hp : ¬ pick l k) : keyUpTo l (k + 1) = keyUpTo l k := by
  conv => lhs; unfold keyUpTo
  rw [if_neg hp, List.append_nil]
theorem key_same {l : List ByteArray} {k : Nat} : ∀ d, (∀ j, k ≤ j → j < k + d → ¬ pick l j ∨ l.length ≤ j) → keyUpTo l (k + d) = keyUpTo l k
  | 0, _ => rfl
  | d + 1, h => by
    have ih := key_same (l := l) (k := k) d fun j h1 h2 => h j h1 (by omega)
    rw [← Nat.add_assoc]
    rcases h (k + d) (by omega) (by omega) with hp | hp
    · rw [key_no hp, ih]
    · by_cases hq : pick l (k + d)
      · conv => lhs; unfold keyUpTo
        rw [if_pos hq, List.getElem?_eq_none hp, ih]; simp
      · rw [key_no hq, ih]
/-- The keys stand at 1, 1 + st, .., up to N. -/
structure Ctx (l : List ByteArray) (s : Sp) (N st : Nat) : Prop where
  is : chk l = (s, 0)
  fi : s.first = 1
  sp : s.step = st
  s1 : 1 ≤ st
  s2 : st ≤ 2
  lt : N < l.length
  at' : ∀ j : Nat, 1 ≤ j → j < l.length → (((j : Int) ≤ s.last ∨ s.last = -1) ↔ j ≤ N)
theorem Ctx.pick {l : List ByteArray} {s : Sp} {N st : Nat} (h : Ctx l s N st) {j : Nat} (h1 : 1 ≤ j) (h2 : j < l.length) : T.pick l j ↔ j ≤ N ∧ (j - 1) % st = 0 := by
  unfold T.pick
  rw [h.is, h.fi, h.sp]
  have := h.at' j h1 h2
  have hs := h.s1
  constructor
  · rintro ⟨_, _, _, h3, h4⟩
    refine ⟨this.1 h3, ?_⟩
    have e : (j : Int) - 1 = ((j - 1 : Nat) : Int) := by omega

    rw [e] at h4
    exact_mod_cast h4
  · rintro ⟨h3, h4⟩
    refine ⟨rfl, by decide, by omega, this.2 h3, ?_⟩
    have e : (j : Int) - 1 = ((j - 1 : Nat) : Int) := by omega

    rw [e]
    exact_mod_cast h4
theorem Ctx.step {l : List ByteArray} {s : Sp} {N st : Nat} (h : Ctx l s N st) {k : Nat} (h1 : 1 ≤ k) (h2 : k ≤ N) (hm : (k - 1) % st = 0) : keyUpTo l (k + st) = keyUpTo l k ++ [l[k]'(Nat.lt_of_le_of_lt h2 h.lt)] := by
  have hp := (h.pick h1 (Nat.lt_of_le_of_lt h2 h.lt)).2 ⟨h2, hm⟩
  rcases Nat.lt_or_eq_of_le h.s1 with hs | hs
  · have e2 : st = 2 := by have := h.s2; omega
    subst e2
    rw [show k + 2 = (k + 1) + 1 from rfl]
    have := key_same (l := l) (k := k + 1) 1 fun j h3 h4 => by
      have ej : j = k + 1 := by omega
      subst ej
      by_cases hl : k + 1 < l.length
      · left; intro hh
        have := ((h.pick (by omega) hl).1 hh).2
        omega
      · right; omega
    rw [this, key_yes hp]
  · subst hs
    exact key_yes hp _
theorem Ctx.done {l : List ByteArray} {s : Sp} {N st : Nat} (h : Ctx l s N st) {k : Nat} (h1 : N < k) : keyUpTo l k = keysOf l := by
  have hh : ∀ m, N < m → keyUpTo l m = keyUpTo l (N + 1) := fun m hm => by
    obtain ⟨d, rfl⟩ : ∃ d, m = (N + 1) + d := ⟨m - (N + 1), by omega⟩
    refine key_same d fun j h3 h4 => ?_
    by_cases hl : j < l.length
    · left; intro hp
      have := ((h.pick (by omega) hl).1 hp).1
      omega
    · right; omega
  unfold keysOf
  rw [hh k h1, hh _ h.lt]
theorem keys_none {l : List ByteArray} (h : (chk l).2 ≠ 0 ∨ (chk l).1.first = 0) : ∀ k, keyUpTo l k = []
  | 0 => rfl
  | k + 1 => by
    rw [key_no, keys_none h k]
    rintro ⟨h1, h2, _⟩
    rcases h with h | h
    · exact h h1
    · omega
theorem chk_is {l : List ByteArray} (h : (chk l).2 = 0) : ∃ x r, l = x :: r ∧ (chk l).1 = fsp x ∧ fit (fsp x) r.length ∧ fis x = true := by
  cases l with
  | nil => simp [chk] at h
  | cons x r =>
    unfold chk at h ⊢
    by_cases h1 : fis x = true
    · by_cases h2 : fit (fsp x) r.length
      · exact ⟨x, r, rfl, by simp [h1, h2], h2, h1⟩
      · simp [h1, h2] at h
    · simp [h1] at h
theorem ctx_of {l : List ByteArray} (h : (chk l).2 = 0) (hf : (chk l).1.first ≠ 0) : ∃ N st : Nat, Ctx l (chk l).1 N st ∧ ((chk l).1.last < 0 → N = l.length - 1) ∧ (0 ≤ (chk l).1.last → N = 1 ∧ (chk l).1.last = 1) := by
  obtain ⟨x, r, rfl, e, hfit, _⟩ := chk_is h
  have hok := fsp_ok x
  have hsnd : chk (x :: r) = (fsp x, 0) := Prod.ext e h
  rw [e] at hf ⊢
  have h1 := hok.has hf
  have h2 := hok.st1
  have hf1 : (fsp x).first = 1 := by have := hok.fi0; have := hok.fi1; omega
  by_cases hl : (fsp x).last < 0
  · refine ⟨r.length, (fsp x).step.toNat, ⟨hsnd, hf1, by omega, by omega, by omega, by simp, fun j h3 h4 => ?_⟩, fun _ => by simp, fun h => absurd h (by omega)⟩
    have : (fsp x).last = -1 := by have := hok.la0; omega
    constructor
    · intro _; simp at h4; omega
    · intro _; exact .inr this
  · have h5 := hok.one (by omega)
    have h6 := h5.2 hf1
    have h7 := hfit.1
    refine ⟨1, (fsp x).step.toNat, ⟨hsnd, hf1, by omega, by omega, by omega, by simp; omega, fun j h3 h4 => ?_⟩, fun h => absurd h hl, fun _ => ⟨rfl, by omega⟩⟩
    constructor
    · rintro (h | h) <;> omega
    · intro h; left; omega
end Go.Proofs.YtgakeclocbfnpaaDoor.T
