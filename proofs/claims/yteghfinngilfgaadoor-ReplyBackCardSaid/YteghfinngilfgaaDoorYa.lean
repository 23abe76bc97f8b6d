import Derived.Deep.DeepCutAuto
import Derived.Laws.OwnMore
import Derived.OwnWalk
import Derived.Lib.AppendStr
import Derived.Lib.SliceRun
import Derived.Lib.SmallJoins
import Derived.IntWalk
import Derived.Lib.ItoaLen
import Derived.Deep.RegionLaw
import Derived.Deep.AppendLies
import Derived.Test.YteghfinngilfgaaDoorProg
import Derived.Test.YteghfinngilfgaaDoorMem
import Derived.WalkKit
import Derived.Outline
import Derived.WalkLawsBesides
import Derived.Deep.QuietTactic
import Derived.BigQuiet
import Derived.Lib.Hide
import Derived.Handy
import Derived.Deep.RegionHeld3
import Derived.Deep.DrawnRows
import Derived.KernelRfl
import Derived.Great.Walk
import Derived.Test.YteghfinngilfgaaDoorOwn
namespace Go.Proofs.YteghfinngilfgaaDoor.T
open Go Go.RowKit Go.Sort Mem Own
set_option maxRecDepth 100000
set_option maxHeartbeats 1000000
set_option linter.unusedVariables false
set_option linter.unusedSimpArgs false

/-- A reply. -/
inductive T where
  | mk (k z : Int) (t : ByteArray) (l : List T)
/-- The value of a reply, its parts. -/
def T.k : T → Int | .mk k _ _ _ => k
def T.z : T → Int | .mk _ z _ _ => z
def T.t : T → ByteArray | .mk _ _ t _ => t
def T.l : T → List T | .mk _ _ _ l => l
abbrev tV (k z : Int) (t : ByteArray) (A : Option Addr) (n c : Nat) : Value := .agg #[.int .i64 k, .int .i64 z, .string t, .slice A n c]
mutual
/-- A reply with its list at an address. -/
def RdT (w : World) (A : Option Addr) : T → Prop
  | .mk _ _ _ l => l = [] ∨ ∃ b off, A = some ⟨b, off, none⟩ ∧ RdRow w b off l
/-- A row of replies. -/
def RdRow (w : World) (b : Nat) : Nat → List T → Prop
  | _, [] => True
  | off, x :: l => (∃ A c, w.cell? ⟨b, off, none⟩ = some (.int .i64 x.k) ∧ w.cell? ⟨b, off + 1, none⟩ = some (.int .i64 x.z) ∧ w.cell? ⟨b, off + 2, none⟩ = some (.string x.t) ∧ w.cell? ⟨b, off + 3, none⟩ = some (.slice A x.l.length c) ∧ RdT w A x) ∧ RdRow w b (off + 4) l
end
mutual
def T.sz : T → Nat
  | .mk _ _ _ l => 1 + szs l
def szs : List T → Nat
  | [] => 0
  | x :: l => x.sz + szs l
end
theorem sz_pos (x : T) : 0 < x.sz := by cases x; simp only [T.sz]; omega
theorem szs_mem {x : T} : ∀ {l : List T}, x ∈ l → x.sz ≤ szs l
  | y :: l, h => by
    simp only [szs]
    rcases List.mem_cons.1 h with rfl | h
    · omega
    · have := szs_mem h; omega
theorem sz_mk (x : T) : x.sz = 1 + szs x.l := by cases x; rfl
theorem sz_lt {x y : T} (h : y ∈ x.l) : y.sz < x.sz := by rw [sz_mk x]; have := szs_mem h; omega
theorem rd_below_aux {w w' : World} (hb : Below w.heap.size w w') : ∀ n, (∀ (x : T) A, x.sz ≤ n → RdT w A x → RdT w' A x) ∧ (∀ (l : List T) b off, szs l ≤ n → RdRow w b off l → RdRow w' b off l) := by
  intro n
  induction n with
  | zero =>
    refine ⟨fun x A h => by have := sz_pos x; omega, fun l => ?_⟩
    induction l with
    | nil => intro b off _ _; trivial
    | cons x l ih => intro b off h; simp only [szs] at h; have := sz_pos x; omega
  | succ n ih =>
    have h1 : ∀ (x : T) A, x.sz ≤ n + 1 → RdT w A x → RdT w' A x := by
      intro x A hx h
      obtain ⟨k, z, t, l⟩ := x
      simp only [T.sz] at hx
      simp only [RdT] at h ⊢
      rcases h with h | ⟨b, off, e, h⟩
      · exact .inl h
      · exact .inr ⟨b, off, e, ih.2 l b off (by omega) h⟩
    refine ⟨h1, fun l => ?_⟩
    induction l with
    | nil => intro b off _ _; trivial
    | cons x l ihl =>
      intro b off hs h
      simp only [szs] at hs
      simp only [RdRow] at h ⊢
      obtain ⟨⟨A, c, c0, c1, c2, c3, hx⟩, hl⟩ := h
      exact ⟨⟨A, c, cell_below hb c0, cell_below hb c1, cell_below hb c2, cell_below hb c3, h1 x A (by omega) hx⟩, ihl b _ (by omega) hl⟩
theorem RdT.below {w w' : World} {A : Option Addr} {x : T} (h : RdT w A x) (hb : Below w.heap.size w w') : RdT w' A x := (rd_below_aux hb x.sz).1 x A (Nat.le_refl _) h
theorem RdRow.below {w w' : World} {b off : Nat} {l : List T} (h : RdRow w b off l) (hb : Below w.heap.size w w') : RdRow w' b off l := (rd_below_aux hb (szs l)).2 l b off (Nat.le_refl _) h
theorem RdRow.drop {w : World} {b : Nat} : ∀ {l : List T} {off : Nat} (i : Nat), RdRow w b off l → RdRow w b (off + i * 4) (l.drop i)
  | l, off, 0, h => by simpa using h
  | [], off, i + 1, h => by simp [RdRow]
  | x :: l, off, i + 1, h => by
    have := RdRow.drop (l := l) (off := off + 4) i h.2
    rw [List.drop_succ_cons, show off + (i + 1) * 4 = off + 4 + i * 4 by omega]
    exact this
/-- A place of a row. -/
theorem RdRow.at {w : World} {b off : Nat} {l : List T} (h : RdRow w b off l) {i : Nat} (hi : i < l.length) :
    ∃ A c, w.cell? ⟨b, off + i * 4, none⟩ = some (.int .i64 l[i].k) ∧ w.cell? ⟨b, off + i * 4 + 1, none⟩ = some (.int .i64 l[i].z) ∧ w.cell? ⟨b, off + i * 4 + 2, none⟩ = some (.string l[i].t) ∧ w.cell? ⟨b, off + i * 4 + 3, none⟩ = some (.slice A l[i].l.length c) ∧ RdT w A l[i] := by
  have := h.drop i
  rw [List.drop_eq_getElem_cons hi] at this
  exact this.1
theorem RdT.row {w : World} {A : Option Addr} {x : T} (h : RdT w A x) (hl : 0 < x.l.length) : ∃ b off, A = some ⟨b, off, none⟩ ∧ RdRow w b off x.l := by
  obtain ⟨k, z, t, l⟩ := x
  simp only [RdT] at h
  rcases h with h | h
  · simp [T.l, h] at hl
  · exact h
mutual
/-- law04.small -/
def smallB (d : Int) : T → Bool
  | .mk _ _ t l => !decide (8 < d) && !decide (60 < l.length) && !decide (70000 < t.size) && smallsB (d + 1) l
def smallsB (d : Int) : List T → Bool
  | [] => true
  | x :: l => smallB d x && smallsB d l
end
theorem smallsB_all {d : Int} {l : List T} : smallsB d l = l.all (smallB d) := by
  induction l with
  | nil => rfl
  | cons x l ih => simp only [smallsB, List.all_cons, ih]
theorem smallB_mk (d : Int) (x : T) : smallB d x = (!decide (8 < d) && !decide (60 < x.l.length) && !decide (70000 < x.t.size) && x.l.all (smallB (d + 1))) := by
  cases x; rw [← smallsB_all]; rfl
theorem small_1 {d : Int} {x : T} (h : 8 < d) : smallB d x = false := by rw [smallB_mk]; simp [h]
theorem small_2 {d : Int} {x : T} (h : 60 < x.l.length) : smallB d x = false := by rw [smallB_mk]; simp [h]
theorem small_3 {d : Int} {x : T} (h : 70000 < x.t.size) : smallB d x = false := by rw [smallB_mk]; simp [h]
theorem small_4 {d : Int} {x : T} (h1 : ¬ 8 < d) (h2 : ¬ 60 < x.l.length) (h3 : ¬ 70000 < x.t.size) : smallB d x = x.l.all (smallB (d + 1)) := by rw [smallB_mk]; simp [h1, h2, h3]
theorem all_take {α : Type} {p : α → Bool} {l : List α} {i : Nat} (hi : i < l.length) (h : (l.take i).all p = true) (hp : p l[i] = true) : (l.take (i + 1)).all p = true := by
  rw [List.take_succ_eq_append_getElem hi, List.all_append, h]; simp [hp]
theorem all_not {α : Type} {p : α → Bool} {l : List α} {i : Nat} (hi : i < l.length) (hp : p l[i] = false) : l.all p = false := by
  rw [List.all_eq_false]; exact ⟨l[i], List.getElem_mem hi, by rw [hp]; simp⟩
end Go.Proofs.YteghfinngilfgaaDoor.T
