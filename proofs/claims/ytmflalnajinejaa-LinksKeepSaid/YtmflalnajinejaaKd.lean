import Derived.Deep.DeepCutAuto
import Derived.Laws.OwnMore
import Derived.OwnWalk
import Derived.Lib.AppendStr
import Derived.Lib.SliceRun
import Derived.Lib.SmallJoins
import Derived.IntWalk
import Derived.WalkMore
import Derived.Lib.OthersKept
import Derived.Deep.LoopGhost
import Derived.Deep.RegionLaw
import Derived.Deep.AppendLies
import Derived.Test.YtmflalnajinejaaProg
import Derived.Test.YtmflalnajinejaaMem
import Derived.Test.YtmflalnajinejaaBlk
import Derived.Test.YtmflalnajinejaaAp
import Derived.WalkKit
import Derived.Outline
import Derived.WalkLawsBesides
import Derived.Deep.QuietTactic
import Derived.BigQuiet
import Derived.Lib.Hide
import Derived.Handy
import Derived.Deep.RegionHeld3
import Derived.Deep.DrawnRows
import Derived.KernelRfl
import Derived.Great.Walk
import Derived.Test.YtmflalnajinejaaOwn
namespace Go.Proofs.Ytmflalnajinejaa.T
open Go Go.RowKit Go.Sort Mem Own
set_option maxRecDepth 100000
set_option maxHeartbeats 1000000
set_option linter.unusedVariables false
set_option linter.unusedSimpArgs false

open Go.WideMaps Go.Maps
/-- All cells stand. -/
def Keeps (w w' : World) : Prop := ∀ p v, w.cell? p = some v → w'.cell? p = some v
theorem Keeps.refl (w : World) : Keeps w w := fun _ _ h => h
theorem Keeps.trans {a b c : World} (h : Keeps a b) (h' : Keeps b c) : Keeps a c := fun p v e => h' p v (h p v e)
theorem keeps_below {w w' : World} (hb : Below w.heap.size w w') : Keeps w w' := fun _ _ h => cell_below hb h
theorem keeps_grown {w w' : World} {b : Nat} {es : Array MapEntry} {ck : Nat} (hm : w.heap[b]? = some (.map es ck)) (hg : w.grownBy w' (some b)) : Keeps w w' := by
  intro p v h
  have hlt := lt_of_cell h
  have hne : p.block ≠ b := by
    intro e
    unfold World.cell? at h
    rw [e, hm] at h
    cases h
  unfold World.cell? at h ⊢
  rw [hg.block p.block hlt (fun e => hne (Option.some.inj e))]
  exact h
theorem rd_keeps {w w' : World} {A : Option Addr} {l : List ByteArray} (h : Rd w A l) (hb : Keeps w w') : Rd w' A l := by
  rcases h with h | ⟨b, off, rfl, h⟩
  · exact .inl h
  · exact .inr ⟨b, off, rfl, fun i x hx => hb _ _ (h i x hx)⟩
/-- A reply. -/
inductive T where
  | mk (k z : Int) (t : ByteArray) (l : List T)
def T.k : T → Int | .mk k _ _ _ => k
def T.z : T → Int | .mk _ z _ _ => z
def T.t : T → ByteArray | .mk _ _ t _ => t
def T.l : T → List T | .mk _ _ _ l => l
abbrev tV (k z : Int) (t : ByteArray) (A : Option Addr) (n c : Nat) : Value := .agg #[.int .i64 k, .int .i64 z, .string t, .slice A n c]
mutual
/-- A reply with its list at an address. -/
def RdT (w : World) (A : Option Addr) : T → Prop
  | .mk _ _ _ l => l = [] ∨ ∃ b off, A = some ⟨b, off, none⟩ ∧ RdRow w b off l
/-- A row of replies. -/
def RdRow (w : World) (b : Nat) : Nat → List T → Prop
  | _, [] => True
  | off, x :: l => (∃ A c, w.cell? ⟨b, off, none⟩ = some (.int .i64 x.k) ∧ w.cell? ⟨b, off + 1, none⟩ = some (.int .i64 x.z) ∧ w.cell? ⟨b, off + 2, none⟩ = some (.string x.t) ∧ w.cell? ⟨b, off + 3, none⟩ = some (.slice A x.l.length c) ∧ RdT w A x) ∧ RdRow w b (off + 4) l
end
mutual
def T.sz : T → Nat
  | .mk _ _ _ l => 1 + szs l
def szs : List T → Nat
  | [] => 0
  | x :: l => x.sz + szs l
end
theorem sz_pos (x : T) : 0 < x.sz := by cases x; simp only [T.sz]; omega
theorem szs_mem {x : T} : ∀ {l : List T}, x ∈ l → x.sz ≤ szs l
  | y :: l, h => by
    simp only [szs]
    rcases List.mem_cons.1 h with rfl | h
    · omega
    · have := szs_mem h; omega
theorem sz_mk (x : T) : x.sz = 1 + szs x.l := by cases x; rfl
theorem sz_lt {x y : T} (h : y ∈ x.l) : y.sz < x.sz := by rw [sz_mk x]; have := szs_mem h; omega
theorem szs_len : ∀ {l : List T}, l.length ≤ szs l
  | [] => Nat.le_refl _
  | x :: l => by simp only [szs, List.length_cons]; have := sz_pos x; have := szs_len (l := l); omega
theorem rd_keeps_aux {w w' : World} (hb : Keeps w w') : ∀ n, (∀ (x : T) A, x.sz ≤ n → RdT w A x → RdT w' A x) ∧ (∀ (l : List T) b off, szs l ≤ n → RdRow w b off l → RdRow w' b off l) := by
  intro n
  induction n with
  | zero =>
    refine ⟨fun x A h => by have := sz_pos x; omega, fun l => ?_⟩
    induction l with
    | nil => intro b off _ _; trivial
    | cons x l ih => intro b off h; simp only [szs] at h; have := sz_pos x; omega
  | succ n ih =>
    have h1 : ∀ (x : T) A, x.sz ≤ n + 1 → RdT w A x → RdT w' A x := by
      intro x A hx h
      obtain ⟨k, z, t, l⟩ := x
      simp only [T.sz] at hx
      simp only [RdT] at h ⊢
      rcases h with h | ⟨b, off, e, h⟩
      · exact .inl h
      · exact .inr ⟨b, off, e, ih.2 l b off (by omega) h⟩
    refine ⟨h1, fun l => ?_⟩
    induction l with
    | nil => intro b off _ _; trivial
    | cons x l ihl =>
      intro b off hs h
      simp only [szs] at hs
      simp only [RdRow] at h ⊢
      obtain ⟨⟨A, c, c0, c1, c2, c3, hx⟩, hl⟩ := h
      exact ⟨⟨A, c, hb _ _ c0, hb _ _ c1, hb _ _ c2, hb _ _ c3, h1 x A (by omega) hx⟩, ihl b _ (by omega) hl⟩
theorem RdT.keeps {w w' : World} {A : Option Addr} {x : T} (h : RdT w A x) (hb : Keeps w w') : RdT w' A x := (rd_keeps_aux hb x.sz).1 x A (Nat.le_refl _) h
theorem RdRow.keeps {w w' : World} {b off : Nat} {l : List T} (h : RdRow w b off l) (hb : Keeps w w') : RdRow w' b off l := (rd_keeps_aux hb (szs l)).2 l b off (Nat.le_refl _) h
theorem RdT.below {w w' : World} {A : Option Addr} {x : T} (h : RdT w A x) (hb : Below w.heap.size w w') : RdT w' A x := h.keeps (keeps_below hb)
theorem RdRow.below {w w' : World} {b off : Nat} {l : List T} (h : RdRow w b off l) (hb : Below w.heap.size w w') : RdRow w' b off l := h.keeps (keeps_below hb)
theorem RdRow.drop {w : World} {b : Nat} : ∀ {l : List T} {off : Nat} (i : Nat), RdRow w b off l → RdRow w b (off + i * 4) (l.drop i)
  | l, off, 0, h => by simpa using h
  | [], off, i + 1, h => by simp [RdRow]
  | x :: l, off, i + 1, h => by
    have := RdRow.drop (l := l) (off := off + 4) i h.2
    rw [List.drop_succ_cons, show off + (i + 1) * 4 = off + 4 + i * 4 by omega]
    exact this
/-- A place of a row. -/
theorem RdRow.at {w : World} {b off : Nat} {l : List T} (h : RdRow w b off l) {i : Nat} (hi : i < l.length) :
    ∃ A c, w.cell? ⟨b, off + i * 4, none⟩ = some (.int .i64 l[i].k) ∧ w.cell? ⟨b, off + i * 4 + 1, none⟩ = some (.int .i64 l[i].z) ∧ w.cell? ⟨b, off + i * 4 + 2, none⟩ = some (.string l[i].t) ∧ w.cell? ⟨b, off + i * 4 + 3, none⟩ = some (.slice A l[i].l.length c) ∧ RdT w A l[i] := by
  have := h.drop i
  rw [List.drop_eq_getElem_cons hi] at this
  exact this.1
/-- A row, place by place. -/
theorem RdRow.mk {w : World} {b : Nat} : ∀ {l : List T} {off : Nat}, (∀ (i : Nat) (hi : i < l.length), ∃ A c, w.cell? ⟨b, off + i * 4, none⟩ = some (.int .i64 l[i].k) ∧ w.cell? ⟨b, off + i * 4 + 1, none⟩ = some (.int .i64 l[i].z) ∧ w.cell? ⟨b, off + i * 4 + 2, none⟩ = some (.string l[i].t) ∧ w.cell? ⟨b, off + i * 4 + 3, none⟩ = some (.slice A l[i].l.length c) ∧ RdT w A l[i]) → RdRow w b off l
  | [], _, _ => trivial
  | x :: l, off, h => by
    simp only [RdRow]
    refine ⟨by have := h 0 (by simp); simp only [Nat.zero_mul, Nat.add_zero, List.getElem_cons_zero] at this; exact this, RdRow.mk fun i hi => ?_⟩
    have := h (i + 1) (by simpa using hi)
    rw [show off + (i + 1) * 4 = off + 4 + i * 4 by omega] at this
    simpa using this
theorem RdT.row {w : World} {A : Option Addr} {x : T} (h : RdT w A x) (hl : 0 < x.l.length) : ∃ b off, A = some ⟨b, off, none⟩ ∧ RdRow w b off x.l := by
  obtain ⟨k, z, t, l⟩ := x
  simp only [RdT] at h
  rcases h with h | h
  · simp [T.l, h] at hl
  · exact h
/-- A row of replies at an address. -/
def RdA (w : World) (A : Option Addr) (l : List T) : Prop := l = [] ∨ ∃ b off, A = some ⟨b, off, none⟩ ∧ RdRow w b off l
theorem RdA.keeps {w w' : World} {A : Option Addr} {l : List T} (h : RdA w A l) (hb : Keeps w w') : RdA w' A l := by
  rcases h with h | ⟨b, off, e, h⟩
  · exact .inl h
  · exact .inr ⟨b, off, e, h.keeps hb⟩
theorem RdA.row {w : World} {A : Option Addr} {l : List T} (h : RdA w A l) (hl : 0 < l.length) : ∃ b off, A = some ⟨b, off, none⟩ ∧ RdRow w b off l := by
  rcases h with h | h
  · simp [h] at hl
  · exact h
theorem RdT.rda {w : World} {A : Option Addr} {x : T} (h : RdT w A x) : RdA w A x.l := by cases x; exact h
theorem RdA.rdt {w : World} {A : Option Addr} {k z : Int} {t : ByteArray} {l : List T} (h : RdA w A l) : RdT w A (.mk k z t l) := h
/-- A letter. -/
structure Lt where
  kind : Int
  num : Int
  slot : Int
  ends : Int
  key : ByteArray
  text : ByteArray
  args : List ByteArray
  rep : T
  good : Bool
  asking : Int
/-- The zero letter. -/
def Lt.zero : Lt := ⟨0, 0, 0, 0, ⟨#[]⟩, ⟨#[]⟩, [], .mk 0 0 ⟨#[]⟩ [], false, 0⟩
/-- Where the rows of a letter lie. -/
structure Wh where
  a : Option Addr
  ac : Nat
  r : Option Addr
  rc : Nat
abbrev ltC (x : Lt) (o : Wh) : List Value := [.int .i64 x.kind, .int .i64 x.num, .int .i64 x.slot, .int .i64 x.ends, .string x.key, .string x.text, .slice o.a x.args.length o.ac, .int .i64 x.rep.k, .int .i64 x.rep.z, .string x.rep.t, .slice o.r x.rep.l.length o.rc, .bool x.good, .int .i64 x.asking]
abbrev ltV (x : Lt) (o : Wh) : Value := .agg #[.int .i64 x.kind, .int .i64 x.num, .int .i64 x.slot, .int .i64 x.ends, .string x.key, .string x.text, .slice o.a x.args.length o.ac, .int .i64 x.rep.k, .int .i64 x.rep.z, .string x.rep.t, .slice o.r x.rep.l.length o.rc, .bool x.good, .int .i64 x.asking]
/-- The rows of a letter are there. -/
def LtO (w : World) (x : Lt) (o : Wh) : Prop := Rd w o.a x.args ∧ RdT w o.r x.rep
theorem LtO.keeps {w w' : World} {x : Lt} {o : Wh} (h : LtO w x o) (hb : Keeps w w') : LtO w' x o := ⟨rd_keeps h.1 hb, h.2.keeps hb⟩
/-- A letter lies in 13 cells. -/
def LtAt (w : World) (b off : Nat) (x : Lt) : Prop := ∃ o, LtO w x o ∧ ∀ j u, (ltC x o)[j]? = some u → w.cell? ⟨b, off + j, none⟩ = some u
theorem LtAt.keeps {w w' : World} {b off : Nat} {x : Lt} (h : LtAt w b off x) (hb : Keeps w w') : LtAt w' b off x := by
  obtain ⟨o, h1, h2⟩ := h
  exact ⟨o, h1.keeps hb, fun j u e => hb _ _ (h2 j u e)⟩
/-- A row of letters. -/
def RdL (w : World) (A : Option Addr) (l : List Lt) : Prop := l = [] ∨ ∃ b off, A = some ⟨b, off, none⟩ ∧ ∀ i (h : i < l.length), LtAt w b (off + i * 13) l[i]
theorem RdL.keeps {w w' : World} {A : Option Addr} {l : List Lt} (h : RdL w A l) (hb : Keeps w w') : RdL w' A l := by
  rcases h with h | ⟨b, off, e, h⟩
  · exact .inl h
  · exact .inr ⟨b, off, e, fun i hi => (h i hi).keeps hb⟩
theorem RdL.row {w : World} {A : Option Addr} {l : List Lt} (h : RdL w A l) (hl : 0 < l.length) : ∃ b off, A = some ⟨b, off, none⟩ ∧ ∀ i (h : i < l.length), LtAt w b (off + i * 13) l[i] := by
  rcases h with h | h
  · simp [h] at hl
  · exact h
theorem ltC_len (x : Lt) (o : Wh) : (ltC x o).length = 13 := rfl
theorem flat13 : ∀ {l : List (List Value)}, (∀ x ∈ l, x.length = 13) → ∀ (i j : Nat) (hi : i < l.length), j < 13 → l.flatten[i * 13 + j]? = l[i][j]?
  | x :: l, h, 0, j, _, hj => by
    rw [List.flatten_cons, List.getElem?_append_left (by have := h x (by simp); omega)]
    simp
  | x :: l, h, i + 1, j, hi, hj => by
    rw [List.flatten_cons, List.getElem?_append_right (by have := h x (by simp); omega)]
    have hx := h x (by simp)
    rw [hx, show (i + 1) * 13 + j - 13 = i * 13 + j by omega, flat13 (fun y hy => h y (List.mem_cons_of_mem _ hy)) i j (by simpa using hi) hj]
    simp
theorem flat13_len : ∀ {l : List (List Value)}, (∀ x ∈ l, x.length = 13) → l.flatten.length = l.length * 13
  | [], _ => rfl
  | x :: l, h => by rw [List.flatten_cons, List.length_append, h x (by simp), flat13_len (fun y hy => h y (List.mem_cons_of_mem _ hy)), List.length_cons]; omega
/-- The cells of a row, with the places of its letters' rows. -/
theorem RdL.cells {w : World} {b off : Nat} {l : List Lt} (h : ∀ i (h : i < l.length), LtAt w b (off + i * 13) l[i]) :
    ∃ os : List Wh, os.length = l.length ∧ (∀ i (h1 : i < l.length) (h2 : i < os.length), LtO w l[i] os[i]) ∧ ∀ j u, (List.zipWith ltC l os).flatten[j]? = some u → w.cell? ⟨b, off + j, none⟩ = some u := by
  induction l generalizing off with
  | nil => exact ⟨[], rfl, fun i h1 => by simp at h1, fun j u e => by simp at e⟩
  | cons x l ih =>
    obtain ⟨os, h1, h2, h3⟩ := ih (off := off + 13) (fun i hi => by
      have := h (i + 1) (by simpa using hi)
      rw [show off + (i + 1) * 13 = off + 13 + i * 13 by omega] at this
      simpa using this)
    obtain ⟨o, g1, g2⟩ := h 0 (by simp)
    refine ⟨o :: os, by simp [h1], fun i k1 k2 => ?_, fun j u e => ?_⟩
    · cases i with
      | zero => exact g1
      | succ i => exact h2 i (by simpa using k1) (by simpa using k2)
    · rw [List.zipWith_cons_cons, List.flatten_cons] at e
      rcases Nat.lt_or_ge j 13 with hj | hj
      · rw [List.getElem?_append_left (by rw [ltC_len]; exact hj)] at e
        simpa using g2 j u e
      · rw [List.getElem?_append_right (by rw [ltC_len]; exact hj), ltC_len] at e
        have := h3 (j - 13) u e
        rw [show off + 13 + (j - 13) = off + j by omega] at this
        exact this
theorem zip_len13 {l : List Lt} {os : List Wh} : ∀ x ∈ List.zipWith ltC l os, x.length = 13 := by
  intro x hx
  rw [List.mem_iff_getElem] at hx
  obtain ⟨i, hi, rfl⟩ := hx
  rw [List.getElem_zipWith]; exact ltC_len _ _
/-- A row from its cells. -/
theorem RdL.of_cells {w : World} {b off : Nat} {l : List Lt} {os : List Wh} (hl : os.length = l.length) (h2 : ∀ i (h1 : i < l.length) (h2 : i < os.length), LtO w l[i] os[i]) (h3 : ∀ j u, (List.zipWith ltC l os).flatten[j]? = some u → w.cell? ⟨b, off + j, none⟩ = some u) : ∀ i (h : i < l.length), LtAt w b (off + i * 13) l[i] := by
  intro i hi
  have hi2 : i < os.length := by omega
  refine ⟨os[i], h2 i hi hi2, fun j u e => ?_⟩
  have hj : j < 13 := by have := (List.getElem?_eq_some_iff.1 e).1; rwa [ltC_len] at this
  have hz : i < (List.zipWith ltC l os).length := by simp [List.length_zipWith]; omega
  have := h3 (i * 13 + j) u (by rw [flat13 zip_len13 i j hz hj, List.getElem_zipWith]; exact e)
  rw [show off + i * 13 + j = off + (i * 13 + j) by omega]
  exact this
end Go.Proofs.Ytmflalnajinejaa.T
