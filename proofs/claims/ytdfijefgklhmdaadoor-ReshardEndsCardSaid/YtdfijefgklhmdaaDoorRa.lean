import Derived.Deep.DeepCutAuto
import Derived.Laws.OwnMore
import Derived.OwnWalk
import Derived.Lib.AppendStr
import Derived.Lib.SliceRun
import Derived.Lib.SmallJoins
import Derived.IntWalk
import Derived.Lib.ItoaLen
import Derived.Test.YtdfijefgklhmdaaDoorProg
import Derived.Test.YtdfijefgklhmdaaDoorShelf
import Derived.Test.YtdfijefgklhmdaaDoorMem
import Derived.Test.YtdfijefgklhmdaaDoorR1
import Derived.WalkKit
import Derived.Outline
import Derived.WalkLawsBesides
import Derived.Deep.QuietTactic
import Derived.BigQuiet
import Derived.Lib.Hide
import Derived.Handy
import Derived.Deep.RegionHeld3
import Derived.Deep.DrawnRows
import Derived.KernelRfl
import Derived.Great.Walk
import Derived.Test.YtdfijefgklhmdaaDoorOwn
namespace Go.Proofs.YtdfijefgklhmdaaDoor.T
open Go Go.RowKit Go.Sort Mem Own
set_option maxRecDepth 100000
set_option maxHeartbeats 1000000
set_option linter.unusedVariables false
set_option linter.unusedSimpArgs false

def Tab (w : World) : Prop := Lib.TabIs Tryd.prog w "internal/strconv.uint64pow10" .u64 Lib.pow10Tab
theorem Tab.keep {w w' : World} (h : Tab w) (hb : Below w.heap.size w w') : Tab w' := var?_keep hb h
theorem grow_below (w : World) (os : Array Obj) (B : Nat) (hB : B ≤ w.heap.size) : Below B w (grow w os) := by
  refine ⟨rfl, rfl, rfl, by simp [grow], fun k hk => ?_⟩
  show (w.heap ++ os)[k]? = _
  rw [Array.getElem?_append_left (by omega)]
/-- A number's text. -/
def dec (n : Int) : ByteArray := ⟨(Lib.itoa n).toArray⟩
theorem itoa_is (n : Int) (w : World) (h0 : -9223372036854775808 ≤ n) (h1 : n ≤ 9223372036854775807) (hT : Tab w) :
    Calls Tryd.prog 31 #[.int .i64 n] w fun e w' => e = .returned (.string (dec n)) ∧ Below w.heap.size w w' :=
  (Tryd.strconv_Itoa n h0 h1 w hT).mono fun e w' ⟨he, k, os, hw⟩ => ⟨he, by rw [hw]; exact (Go.below_drewN (Below.refl _ _) k).trans (grow_below _ _ _ (Nat.le_refl _))⟩
/-- number.Print -/
theorem print_is (n : Int) (w : World) (h0 : -9223372036854775808 ≤ n) (h1 : n ≤ 9223372036854775807) (hT : Tab w) :
    Calls Tryd.prog 25 #[.int .i64 n] w fun e w' => e = .returned (.string (dec n)) ∧ Below w.heap.size w w' := by
  have HT := Lib.hid hT
  clear hT
  go_enter Tryd.func25, Tryd.ntmps25
  go_wp2_with (go_at_call 31; refine Calls.mono (itoa_is n _ h0 h1 HT.out) ?_; rintro e w1 ⟨rfl, hb1⟩)
  go_ret
  exact ⟨rfl, hb1⟩
theorem node_is (n : Int) (w : World) : Calls Tryd.prog 21 #[.int .i64 n] w fun e w' => e = .returned (.bool (decide (0 ≤ n) && decide (n < 64))) ∧ w = w' := by
  obtain ⟨p, hp⟩ : ∃ p, p = decide (0 ≤ n) := ⟨_, rfl⟩
  obtain ⟨q, hq⟩ : ∃ q, q = decide (n < 64) := ⟨_, rfl⟩
  rw [← hp, ← hq]
  have HP := Lib.hid hp; have HQ := Lib.hid hq
  cases p
  · have h1 : n < 0 := by have := hp.symm; rw [decide_eq_false_iff_not] at this; omega
    clear hp hq
    go_enter Tryd.func21, Tryd.ntmps21
    go_wp2
    go_ret
    exact ⟨rfl, rfl⟩
  · have h1 : 0 ≤ n := of_decide_eq_true hp.symm
    clear hp
    rw [hq]
    clear hq HQ HP
    go_enter Tryd.func21, Tryd.ntmps21
    go_wp2
    go_ret
    exact ⟨by simp, rfl⟩
/-- A move. -/
structure Mv where
  s : Int
  f : Int
  t : Int
abbrev mvV (m : Mv) : Value := .agg #[.int .i64 m.s, .int .i64 m.f, .int .i64 m.t]
def mvC (m : Mv) : List Value := [.int .i64 m.s, .int .i64 m.f, .int .i64 m.t]
/-- A row of moves, read. -/
def RdM (w : World) (A : Option Addr) (l : List Mv) : Prop := l = [] ∨ ∃ b off, A = some ⟨b, off, none⟩ ∧ ∀ i m, l[i]? = some m → w.cell? ⟨b, off + i * 3, none⟩ = some (.int .i64 m.s) ∧ w.cell? ⟨b, off + i * 3 + 1, none⟩ = some (.int .i64 m.f) ∧ w.cell? ⟨b, off + i * 3 + 2, none⟩ = some (.int .i64 m.t)
theorem RdM.below {w w' : World} {A : Option Addr} {l : List Mv} (h : RdM w A l) (hb : Below w.heap.size w w') : RdM w' A l := by
  rcases h with h | ⟨b, off, rfl, h⟩
  · exact .inl h
  · exact .inr ⟨b, off, rfl, fun i x hx => ⟨cell_below hb (h i x hx).1, cell_below hb (h i x hx).2.1, cell_below hb (h i x hx).2.2⟩⟩
theorem RdM.addr {w : World} {A : Option Addr} {l : List Mv} (h : RdM w A l) (hl : 0 < l.length) : ∃ b off, A = some ⟨b, off, none⟩ := by
  rcases h with rfl | ⟨b, off, rfl, _⟩
  · simp at hl
  · exact ⟨b, off, rfl⟩
theorem RdM.cell {w : World} {b off : Nat} {l : List Mv} (h : RdM w (some ⟨b, off, none⟩) l) {i : Nat} (hi : i < l.length) : w.cell? ⟨b, off + i * 3, none⟩ = some (.int .i64 l[i].s) ∧ w.cell? ⟨b, off + i * 3 + 1, none⟩ = some (.int .i64 l[i].f) ∧ w.cell? ⟨b, off + i * 3 + 2, none⟩ = some (.int .i64 l[i].t) := by
  rcases h with rfl | ⟨b', off', e, h⟩
  · simp at hi
  · cases e
    exact h i l[i] (List.getElem?_eq_getElem hi)
theorem RdM.take {w : World} {A : Option Addr} {l : List Mv} (h : RdM w A l) (n : Nat) : RdM w A (l.take n) := by
  rcases h with rfl | ⟨b, off, rfl, h⟩
  · left; simp
  · refine .inr ⟨b, off, rfl, fun i m hm => h i m ?_⟩
    rw [List.getElem?_take] at hm
    split at hm
    · exact hm
    · cases hm
/-- Has one of the first n moves the slot? -/
theorem twice_is (b off n cap : Nat) (l : List Mv) (s' : Int) (a : Addr) (w : World) (hl : RdM w (some ⟨b, off, none⟩) l) (hnl : n ≤ l.length) (ha : w.cell? a = some (.int .i64 s')) (hn : n ≤ 1000) :
    Calls Tryd.prog 19 #[.slice (some ⟨b, off, none⟩) n cap, .func (.func 20) #[] #[.pointer (some a)]] w fun e w' => ∃ r : Bool, e = .returned (.bool r) ∧ (r = true ↔ ∃ m ∈ l.take n, m.s = s') ∧ Below w.heap.size w w' := by
  have hg : ∀ i, (hi : i < n) → l.getD i ⟨0, 0, 0⟩ = l[i]'(by omega) := fun i hi => by rw [List.getD_eq_getElem?_getD, List.getElem?_eq_getElem (by omega)]; rfl
  refine (contains_slot b off n cap (fun i => (l.getD i ⟨0, 0, 0⟩).s) (fun i => (l.getD i ⟨0, 0, 0⟩).f) (fun i => (l.getD i ⟨0, 0, 0⟩).t) s' a w ha hn (fun i hi => ?_) (fun i hi => ?_) (fun i hi => ?_)).mono ?_
  · rw [hg i hi]; exact (hl.cell (by omega)).1
  · rw [hg i hi]; exact (hl.cell (by omega)).2.1
  · rw [hg i hi]; exact (hl.cell (by omega)).2.2
  · rintro e w' ⟨r, h1, h2, h3⟩
    refine ⟨r, h1, h2.trans ⟨?_, ?_⟩, h3⟩
    · rintro ⟨i, hi, he⟩
      rw [hg i hi] at he
      exact ⟨l[i]'(by omega), List.mem_iff_getElem.2 ⟨i, by simp; omega, by simp⟩, he⟩
    · rintro ⟨m, hm, he⟩
      obtain ⟨i, hi, rfl⟩ := List.mem_iff_getElem.1 hm
      have hi' : i < n := by simp at hi; omega
      refine ⟨i, hi', ?_⟩
      rw [hg i hi', ← he]
      simp
end Go.Proofs.YtdfijefgklhmdaaDoor.T
