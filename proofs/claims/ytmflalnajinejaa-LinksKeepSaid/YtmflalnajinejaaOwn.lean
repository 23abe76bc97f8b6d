/- Rows of texts: how a slice of strings reads; a row of the call's own. No program in sight (9 is the number of the type string). -/
import Derived.Test.YtmflalnajinejaaMem
import Derived.OneCell
import Derived.OwnWalk
import Derived.Laws.OwnMore
namespace Go.Proofs.Ytmflalnajinejaa.Own
open Go Go.RowKit Mem
set_option linter.unusedVariables false
/-- From address A on lie the strings l. -/
def Rd (w : World) (A : Option Addr) (l : List ByteArray) : Prop := l = [] ∨ ∃ b off, A = some ⟨b, off, none⟩ ∧ ∀ i x, l[i]? = some x → w.cell? ⟨b, off + i, none⟩ = some (.string x)
theorem Rd.below {w w' : World} {A : Option Addr} {l : List ByteArray} (h : Rd w A l) (hb : Below w.heap.size w w') : Rd w' A l := by
  rcases h with h | ⟨b, off, rfl, h⟩
  · exact .inl h
  · exact .inr ⟨b, off, rfl, fun i x hx => cell_below hb (h i x hx)⟩
theorem Rd.alloc {w : World} {A : Option Addr} {l : List ByteArray} (h : Rd w A l) (o : Obj) : Rd (w.alloc o) A l := h.below ((Below.refl _ _).alloc (Nat.le_refl _) o)
theorem Rd.head {w : World} {A : Option Addr} {x : ByteArray} {l : List ByteArray} (h : Rd w A (x :: l)) : ∃ b off, A = some ⟨b, off, none⟩ ∧ w.cell? ⟨b, off, none⟩ = some (.string x) := by
  rcases h with h | ⟨b, off, rfl, h⟩
  · cases h
  · exact ⟨b, off, rfl, by simpa using h 0 x rfl⟩
theorem Rd.cell {w : World} {b off : Nat} {l : List ByteArray} {k : Nat} (h : Rd w (some ⟨b, off, none⟩) l) (hk : k < l.length) : w.cell? ⟨b, off + k, none⟩ = some (.string l[k]) := by
  rcases h with rfl | ⟨b', off', e, h⟩
  · simp at hk
  · injection e with e; injection e with e1 e2; subst e1; subst e2
    exact h k _ (List.getElem?_eq_getElem hk)
theorem Rd.addr {w : World} {A : Option Addr} {l : List ByteArray} (h : Rd w A l) (hl : 0 < l.length) : ∃ b off, A = some ⟨b, off, none⟩ := by
  rcases h with rfl | ⟨b, off, e, h⟩
  · simp at hl
  · exact ⟨b, off, e⟩
def vs (l : List ByteArray) : List Value := l.map Value.string
theorem alloc_size (w : World) (o : Obj) : (w.alloc o).heap.size = w.heap.size + 1 := by show (w.heap.push o).size = _; simp
theorem own_slice {w : World} {B n : Nat} {v : Value} {xs : List Value} (h : w.ownsRow B 9 1 v n xs) : ∃ A c, v = .slice A n c := by
  rcases h.2 with ⟨rfl, rfl⟩ | ⟨g, cap, cur, rfl, _⟩
  · exact ⟨none, 0, rfl⟩
  · exact ⟨_, _, rfl⟩
theorem own_lt {w : World} {B n : Nat} {v : Value} {xs : List Value} (h : w.ownsRow B 9 1 v n xs) : ∀ k, v.ownBlock = some k → B ≤ k := fun k hk => (h.lt k hk).1
theorem push_row {w : World} {B n : Nat} {v : Value} {o : List ByteArray} {s : ByteArray} (h : w.ownsRow B 9 1 v n (vs o ++ [.string s])) : w.ownsRow B 9 1 v n (vs (o ++ [s])) := by simpa [vs] using h
theorem push_below {n : Nat} {w wr w1 : World} {v : Value} {xs : List Value} {ob : Obj} (hb : Below w.heap.size w wr) (hown : wr.ownsRow w.heap.size 9 1 v n xs) (hg : (wr.alloc ob).grownBy w1 v.ownBlock) : Below w.heap.size w w1 :=
  (hb.alloc hb.size ob).grown hg (by have := hb.size; rw [alloc_size]; omega) (fun k hk => own_lt hown k hk)
theorem own_len {w : World} {B n : Nat} {v : Value} {o : List ByteArray} (h : w.ownsRow B 9 1 v n (vs o)) : o.length = n := by have := h.1; simpa [vs] using this
theorem own_rd {w : World} {B n : Nat} {A : Option Addr} {c : Nat} {l : List ByteArray} (h : w.ownsRow B 9 1 (.slice A n c) l.length (vs l)) : Rd w A l ∧ n = l.length ∧ l.length ≤ c ∧ c ≤ maxLen := by
  have h' := h
  rcases h.2 with ⟨e, h0⟩ | ⟨g, cap, cur, e, _, hg, hnc, hcm, _⟩
  · injection e with e1 e2 e3
    refine ⟨.inl (List.eq_nil_of_length_eq_zero h0), by omega, by omega, by rw [e3]; exact Nat.zero_le _⟩
  · injection e with e1 e2 e3
    subst e1; subst e2; subst e3
    refine ⟨.inr ⟨g, 0, rfl, fun i x hx => ?_⟩, rfl, hnc, hcm⟩
    have hi : i < l.length := (List.getElem?_eq_some_iff.1 hx).1
    have := h'.cellAt i (by omega)
    rw [Nat.zero_add, this]
    simp [vs, hx]
theorem ba_inj {a b : ByteArray} (h : a.toList = b.toList) : a = b := by
  rw [ByteArray.toList_eq, ByteArray.toList_eq] at h
  apply ByteArray.ext; exact Array.toList_inj.1 h
end Go.Proofs.Ytmflalnajinejaa.Own
