import Derived.Deep.DeepCutAuto
import Derived.Laws.OwnMore
import Derived.OwnWalk
import Derived.Lib.AppendStr
import Derived.Lib.SliceRun
import Derived.Lib.SmallJoins
import Derived.IntWalk
import Derived.WalkMore
import Derived.Lib.OthersKept
import Derived.Deep.LoopGhost
import Derived.Deep.RegionLaw
import Derived.Deep.AppendLies
import Derived.Test.YtmflalnajinejaaProg
import Derived.Test.YtmflalnajinejaaMem
import Derived.Test.YtmflalnajinejaaBlk
import Derived.Test.YtmflalnajinejaaAp
import Derived.Test.YtmflalnajinejaaKa
import Derived.Test.YtmflalnajinejaaKc
import Derived.Test.YtmflalnajinejaaKd
import Derived.Test.YtmflalnajinejaaKl
import Derived.Test.YtmflalnajinejaaOwn
import Derived.WalkKit
import Derived.Outline
import Derived.WalkLawsBesides
import Derived.Deep.QuietTactic
import Derived.BigQuiet
import Derived.Lib.Hide
import Derived.Handy
import Derived.Deep.RegionHeld3
import Derived.Deep.DrawnRows
import Derived.KernelRfl
import Derived.Great.Walk
import Derived.Test.YtmflalnajinejaaOwn
namespace Go.Proofs.Ytmflalnajinejaa.T
open Go Go.RowKit Go.Sort Mem Own
set_option maxRecDepth 100000
set_option maxHeartbeats 1000000
set_option linter.unusedVariables false
set_option linter.unusedSimpArgs false

open Go.WideMaps Go.Maps
/-- A letter on its way. -/
abbrev Wy := En × Lt
def WyAt (w : World) (b off : Nat) (p : Wy) : Prop := w.cell? ⟨b, off, none⟩ = some (.int .i64 p.1.1) ∧ w.cell? ⟨b, off + 1, none⟩ = some (.int .i64 p.1.2) ∧ ∃ o, LtO w p.2 o ∧ ∀ j u, (ltC p.2 o)[j]? = some u → w.cell? ⟨b, off + 2 + j, none⟩ = some u
theorem WyAt.keeps {w w' : World} {b off : Nat} {p : Wy} (h : WyAt w b off p) (hk : Keeps w w') : WyAt w' b off p := by
  obtain ⟨h1, h2, o, h3, h4⟩ := h
  exact ⟨hk _ _ h1, hk _ _ h2, o, h3.keeps hk, fun j u e => hk _ _ (h4 j u e)⟩
/-- A row of letters on their way. -/
def RdW (w : World) (A : Option Addr) (l : List Wy) : Prop := l = [] ∨ ∃ b off, A = some ⟨b, off, none⟩ ∧ ∀ i (h : i < l.length), WyAt w b (off + i * 15) l[i]
theorem RdW.keeps {w w' : World} {A : Option Addr} {l : List Wy} (h : RdW w A l) (hk : Keeps w w') : RdW w' A l := by
  rcases h with h | ⟨b, off, e, h⟩
  · exact .inl h
  · exact .inr ⟨b, off, e, fun i hi => (h i hi).keeps hk⟩
theorem RdW.row {w : World} {A : Option Addr} {l : List Wy} (h : RdW w A l) (hl : 0 < l.length) : ∃ b off, A = some ⟨b, off, none⟩ ∧ ∀ i (h : i < l.length), WyAt w b (off + i * 15) l[i] := by
  rcases h with h | h
  · simp [h] at hl
  · exact h
/-- How many of the ways go from x.1 to x.2. -/
def cnt (x : En) (l : List Wy) : Nat := (l.filter fun p => decide (p.1 = x)).length
theorem cnt_take {x : En} {l : List Wy} {i : Nat} (hi : i < l.length) : cnt x (l.take (i + 1)) = cnt x (l.take i) + if l[i].1 = x then 1 else 0 := by
  unfold cnt
  rw [List.take_succ_eq_append_getElem hi, List.filter_append, List.length_append]
  by_cases h : l[i].1 = x <;> simp [h]
theorem cnt_le (x : En) (l : List Wy) (i : Nat) : cnt x (l.take i) ≤ i := Nat.le_trans (List.length_filter_le _ _) (by rw [List.length_take]; omega)
set_option maxHeartbeats 2000000 in
/-- ref18.Waiting -/
theorem rwait_is (l : List Wy) (A : Option Addr) (n c : Nat) (x y : Int) (w : World) (hl : l.length = n) (hn : n ≤ 1000000) (hr : RdW w A l) :
    Calls Try.prog 22 #[.slice A n c, .int .i64 x, .int .i64 y] w fun e w' => e = .returned (.int .i64 (cnt (x, y) l)) ∧ w = w' := by
  have HR := Lib.hid hr
  have HL := Lib.hid hl
  have HS := Lib.hid (fun i (hi : i < l.length) => cnt_take (x := (x, y)) hi)
  have HE := Lib.hid (show cnt (x, y) (l.take n) = cnt (x, y) l by rw [← hl, List.take_length])
  have HC := Lib.hid (cnt_le (x, y) l)
  have H0 := Lib.hid (show cnt (x, y) (l.take 0) = 0 by rfl)
  clear hr hl
  generalize cnt (x, y) l = R at HE ⊢
  go_enter Try.func22, Try.ntmps22
  go_wp2_with fail
  go_loop [7, 8] (fun s7 s8 => ∃ i : Nat, i ≤ n ∧ s8 = .int .i64 i ∧ ∃ k : Nat, s7 = .int .i64 k ∧ k ≤ i ∧ RowKit.Hid (k = cnt (x, y) (l.take i))) (fun _ s8 => n - (intOf s8).toNat)
  case atStart => exact ⟨0, Nat.zero_le _, rfl, 0, rfl, Nat.le_refl _, Lib.hid H0.out.symm⟩
  case round =>
    obtain ⟨i, hi, rfl, k, rfl, hk, HK⟩ := hrel
    by_cases hlt : i < n
    · have hlt2 := Lib.hid (show i < l.length by rw [HL.out]; exact hlt)
      obtain ⟨b, off, rfl, hrow⟩ := HR.out.row (Nat.zero_lt_of_lt hlt2.out)
      obtain ⟨g0, g1, _⟩ := hrow i hlt2.out
      have HS1 := Lib.hid (HS.out i hlt2.out)
      clear hrow
      generalize l[i]'hlt2.out = p at g0 g1 HS1
      obtain ⟨⟨px, py⟩, pl⟩ := p
      dsimp only at g0 g1
      by_cases hx : px = x
      · have hxb : (px == x) = true := by simpa using hx
        by_cases hy : py = y
        · have hyb : (py == y) = true := by simpa using hy
          have HS2 := Lib.hid (show cnt (x, y) (l.take (i + 1)) = k + 1 by rw [HS1.out, HK.out]; simp [hx, hy])
          clear hx hy
          go_wp2
          exact ⟨⟨i + 1, by omega, by go_num, k + 1, by go_num, by omega, Lib.hid HS2.out.symm⟩, by simp [intOf]; omega⟩
        · have hyb : (py == y) = false := by simpa using hy
          have HS2 := Lib.hid (show cnt (x, y) (l.take (i + 1)) = k by rw [HS1.out, HK.out]; simp [hy])
          clear hx hy
          go_wp2
          exact ⟨⟨i + 1, by omega, by go_num, k, rfl, by omega, Lib.hid HS2.out.symm⟩, by simp [intOf]; omega⟩
      · have hxb : (px == x) = false := by simpa using hx
        have HS2 := Lib.hid (show cnt (x, y) (l.take (i + 1)) = k by rw [HS1.out, HK.out]; simp [hx])
        clear hx
        go_wp2
        exact ⟨⟨i + 1, by omega, by go_num, k, rfl, by omega, Lib.hid HS2.out.symm⟩, by simp [intOf]; omega⟩
    · have hin : i = n := by omega
      subst hin
      have hk2 : k = R := HK.out.trans HE.out
      subst hk2
      go_wp2
      go_ret
      exact ⟨rfl, rfl⟩
/-- ref18.before -/
theorem before_is (p q : En) (w : World) : Calls Try.prog 33 #[.agg #[.int .i64 p.1, .int .i64 p.2], .agg #[.int .i64 q.1, .int .i64 q.2]] w fun e w' => e = .returned (.bool (bef p q)) ∧ Below w.heap.size w w' := by
  obtain ⟨a, b⟩ := p
  obtain ⟨c, d⟩ := q
  have HN := Lib.hid (new2 w #[.int .i64 a, .int .i64 b] #[.int .i64 c, .int .i64 d] 40 40)
  obtain ⟨W, hW⟩ : ∃ W, W = (w.alloc (.cells #[.int .i64 a, .int .i64 b] 40)).alloc (.cells #[.int .i64 c, .int .i64 d] 40) := ⟨_, rfl⟩
  have HW := Lib.hid hW
  rw [← hW] at HN
  clear hW
  obtain ⟨p0, p1⟩ := cells2 HN.out.1
  obtain ⟨q0, q1⟩ := cells2 HN.out.2.1
  unfold bef
  dsimp only
  by_cases h1 : a < c
  · have e : decide (a < c ∨ a = c ∧ b < d) = true := by simp [h1]
    rw [e]
    have d1 : decide (a < c) = true := by simpa using h1
    go_enter Try.func33, Try.ntmps33
    go_upto_region 1 with fail
    rw [← HW.out]
    go_wp2
    go_ret
    exact ⟨rfl, HN.out.2.2⟩
  · have d1 : decide (a < c) = false := by simpa using h1
    by_cases h2 : a = c
    · subst h2
      have d2 : (a == a) = true := by simp
      by_cases h3 : b < d
      · have e : decide (a < a ∨ a = a ∧ b < d) = true := by simp [h3]
        rw [e]
        have d3 : decide (b < d) = true := by simpa using h3
        go_enter Try.func33, Try.ntmps33
        go_upto_region 1 with fail
        rw [← HW.out]
        go_wp2
        go_ret
        exact ⟨rfl, HN.out.2.2⟩
      · have e : decide (a < a ∨ a = a ∧ b < d) = false := by simp [h3]
        rw [e]
        have d3 : decide (b < d) = false := by simpa using h3
        go_enter Try.func33, Try.ntmps33
        go_upto_region 1 with fail
        rw [← HW.out]
        go_wp2
        go_ret
        exact ⟨rfl, HN.out.2.2⟩
    · have e : decide (a < c ∨ a = c ∧ b < d) = false := by simp [h1, h2]
      rw [e]
      have d2 : (a == c) = false := by simpa using h2
      go_enter Try.func33, Try.ntmps33
      go_upto_region 1 with fail
      rw [← HW.out]
      go_wp2
      go_ret
      exact ⟨rfl, HN.out.2.2⟩
end Go.Proofs.Ytmflalnajinejaa.T
