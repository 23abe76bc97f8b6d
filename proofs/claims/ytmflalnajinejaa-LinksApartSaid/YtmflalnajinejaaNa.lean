import Derived.Deep.DeepCutAuto
import Derived.Laws.OwnMore
import Derived.OwnWalk
import Derived.Lib.AppendStr
import Derived.Lib.SliceRun
import Derived.Lib.SmallJoins
import Derived.IntWalk
import Derived.WalkMore
import Derived.Lib.OthersKept
import Derived.Deep.LoopGhost
import Derived.Deep.RegionLaw
import Derived.Deep.AppendLies
import Derived.Test.YtmflalnajinejaaProg
import Derived.Test.YtmflalnajinejaaMem
import Derived.Test.YtmflalnajinejaaBlk
import Derived.Test.YtmflalnajinejaaAp
import Derived.Test.YtmflalnajinejaaKa
import Derived.Test.YtmflalnajinejaaKd
import Derived.Test.YtmflalnajinejaaKl
import Derived.Test.YtmflalnajinejaaKx
import Derived.Test.YtmflalnajinejaaMa
import Derived.Test.YtmflalnajinejaaZr
import Derived.WalkKit
import Derived.Outline
import Derived.WalkLawsBesides
import Derived.Deep.QuietTactic
import Derived.BigQuiet
import Derived.Lib.Hide
import Derived.Handy
import Derived.Deep.RegionHeld3
import Derived.Deep.DrawnRows
import Derived.KernelRfl
import Derived.Great.Walk
import Derived.Test.YtmflalnajinejaaOwn
namespace Go.Proofs.Ytmflalnajinejaa.T
open Go Go.RowKit Go.Sort Mem Own
set_option maxRecDepth 100000
set_option maxHeartbeats 1000000
set_option linter.unusedVariables false
set_option linter.unusedSimpArgs false

open Go.WideMaps Go.Maps
/-- append of any row to a row of one's own. -/
theorem app_any {P : Program} (w : World) (base : Nat) (t ty e : TypeId) (i : TypeInfo) (z : Value) (size bytes : Nat) (ht : P.underlying t = some (.slice e)) (hi : P.info? e = some i) (hz : i.zero = some z)
    (hsize : i.size = size) (hby : i.bytes = bytes) (hzs : z.cells.size = size) (hsz : 0 < size)
    (v : Value) (n : Nat) (xs : List Value) (hown : w.ownsRow base e size v n xs)
    (A : Option Addr) (m c : Nat) (news : List Value) (hl : news.length = m * size) (hnews : ∀ j u, news[j]? = some u → ∃ a, A = some a ∧ w.cell? (a.add j) = some u) (h1 : ∀ u ∈ news, u.oneCell' = true)
    (h63 : n + m ≤ maxLen) (hbytes : (n + m) * bytes ≤ 140737488355328) (hbase : base ≤ w.heap.size) :
    ∃ v' w', (Builtin.append_ #[t, t] ty #[v, .slice A m c]).run P w = .ok v' w' ∧ w'.ownsRow base e size v' (n + m) (xs ++ news) ∧ Below base w w' := by
  cases A with
  | some a =>
    obtain ⟨v', w', g1, g2, g3, _⟩ := run_append_own (P := P) w base t ty e i z size bytes ht hi hz hsize hby hzs hsz v n xs hown a m c news hl (fun j u h => by obtain ⟨a', e, h'⟩ := hnews j u h; injection e with e; rw [e]; exact h') h1 h63 hbytes hbase
    exact ⟨v', w', g1, g2, ⟨g3.os, g3.tape, g3.output, g3.size, fun k hk => g3.block k (by omega) fun e => by have := (hown.lt k e.symm).1; omega⟩⟩
  | none =>
    have hm : m = 0 := by
      cases news with
      | nil =>
        have h0 : m * size = 0 := by simpa using hl.symm
        rcases Nat.mul_eq_zero.1 h0 with h | h <;> omega
      | cons u r => obtain ⟨a, e, _⟩ := hnews 0 u rfl; cases e
    subst hm
    have hn0 : news = [] := List.eq_nil_of_length_eq_zero (by simpa using hl)
    subst hn0
    refine ⟨v, w, ?_, by simpa using hown, Below.refl _ _⟩
    rcases hown.2 with ⟨rfl, rfl⟩ | ⟨g, cap, cur, rfl, _, _, hnc, _⟩
    · simp [Builtin.append_, run_underlying ht, sizeOf, typeInfo, hi, Builtin.lenOf, Builtin.firstCells]
    · simp [Builtin.append_, run_underlying ht, sizeOf, typeInfo, hi, Builtin.lenOf, Builtin.firstCells, hnc, storeCells]
/-- The cells of a letter on its way. -/
abbrev wyC (p : Wy) (o : Wh) : List Value := .int .i64 p.1.1 :: .int .i64 p.1.2 :: ltC p.2 o
theorem wyC_len (p : Wy) (o : Wh) : (wyC p o).length = 15 := rfl
theorem flat15 : ∀ {l : List (List Value)}, (∀ x ∈ l, x.length = 15) → ∀ (i j : Nat) (hi : i < l.length), j < 15 → l.flatten[i * 15 + j]? = l[i][j]?
  | x :: l, h, 0, j, _, hj => by
    rw [List.flatten_cons, List.getElem?_append_left (by have := h x (by simp); omega)]
    simp
  | x :: l, h, i + 1, j, hi, hj => by
    rw [List.flatten_cons, List.getElem?_append_right (by have := h x (by simp); omega)]
    have hx := h x (by simp)
    rw [hx, show (i + 1) * 15 + j - 15 = i * 15 + j by omega, flat15 (fun y hy => h y (List.mem_cons_of_mem _ hy)) i j (by simpa using hi) hj]
    simp
theorem flat15_len : ∀ {l : List (List Value)}, (∀ x ∈ l, x.length = 15) → l.flatten.length = l.length * 15
  | [], _ => rfl
  | x :: l, h => by rw [List.flatten_cons, List.length_append, h x (by simp), flat15_len (fun y hy => h y (List.mem_cons_of_mem _ hy)), List.length_cons]; omega
/-- A row of ways with its letters' rows. -/
def WyO (w : World) (l : List Wy) (os : List Wh) : Prop := os.length = l.length ∧ ∀ i (h1 : i < l.length) (h2 : i < os.length), LtO w l[i].2 os[i]
abbrev wyF (l : List Wy) (os : List Wh) : List Value := (List.zipWith wyC l os).flatten
theorem zip_len15 {l : List Wy} {os : List Wh} : ∀ x ∈ List.zipWith wyC l os, x.length = 15 := by
  intro x hx
  rw [List.mem_iff_getElem] at hx
  obtain ⟨i, hi, rfl⟩ := hx
  rw [List.getElem_zipWith]; exact wyC_len _ _
theorem WyO.len {w : World} {l : List Wy} {os : List Wh} (h : WyO w l os) : (wyF l os).length = l.length * 15 := by
  rw [flat15_len zip_len15, List.length_zipWith, h.1, Nat.min_self]
theorem WyO.keeps {w w' : World} {l : List Wy} {os : List Wh} (h : WyO w l os) (hk : Keeps w w') : WyO w' l os := ⟨h.1, fun i h1 h2 => (h.2 i h1 h2).keeps hk⟩
theorem WyO.nil (w : World) : WyO w [] [] := ⟨rfl, fun i h => by simp at h⟩
theorem WyO.snoc {w : World} {l : List Wy} {os : List Wh} (h : WyO w l os) {p : Wy} {o : Wh} (ho : LtO w p.2 o) : WyO w (l ++ [p]) (os ++ [o]) := by
  refine ⟨by simp [h.1], fun i h1 h2 => ?_⟩
  have hl := h.1
  by_cases hi : i < l.length
  · rw [List.getElem_append_left hi, List.getElem_append_left (by omega)]
    exact h.2 i hi (by omega)
  · have hil : i = l.length := by simp at h1; omega
    subst hil
    simp only [List.getElem_append_right (Nat.le_refl _)]
    rw [List.getElem_append_right (by omega)]
    simp [hl]
    exact ho
theorem wyF_snoc {w : World} {l : List Wy} {os : List Wh} (h : WyO w l os) (p : Wy) (o : Wh) : wyF (l ++ [p]) (os ++ [o]) = wyF l os ++ wyC p o := by
  unfold wyF
  rw [List.zipWith_append h.1.symm, List.flatten_append]
  simp
theorem WyAt.of_cells {w : World} {b off : Nat} {p : Wy} {o : Wh} (ho : LtO w p.2 o) (h : ∀ j u, (wyC p o)[j]? = some u → w.cell? ⟨b, off + j, none⟩ = some u) : WyAt w b off p :=
  ⟨h 0 _ rfl, h 1 _ rfl, o, ho, fun j u e => by have := h (j + 2) u (by simpa using e); rwa [show off + (j + 2) = off + 2 + j by omega] at this⟩
/-- A row of one's own, read. -/
theorem own_rdw {w : World} {B n c : Nat} {A : Option Addr} {l : List Wy} {os : List Wh} (h : w.ownsRow B 56 15 (.slice A n c) n (wyF l os)) (ho : WyO w l os) (hn : n = l.length) : RdW w A l := by
  subst hn
  have h' := h
  rcases h.2 with ⟨e, h0⟩ | ⟨g, cap, cur, e, hB, hg, hnc, hcm, _⟩
  · exact .inl (List.eq_nil_of_length_eq_zero h0)
  · injection e with e1 e2 e3
    subst e1; subst e3
    refine .inr ⟨g, 0, rfl, fun i hi => ?_⟩
    have hio : i < os.length := by rw [ho.1]; exact hi
    refine WyAt.of_cells (ho.2 i hi hio) fun j u e => ?_
    have hj : j < 15 := by have := (List.getElem?_eq_some_iff.1 e).1; rwa [wyC_len] at this
    rw [Nat.zero_add, h'.cellAt (i * 15 + j) (by omega)]
    have hz : i < (List.zipWith wyC l os).length := by simp [List.length_zipWith]; omega
    unfold wyF
    rw [flat15 zip_len15 i j hz hj, List.getElem_zipWith]
    exact e
/-- The cells of a row of ways. -/
theorem RdW.cells {w : World} {A : Option Addr} {l : List Wy} (h : RdW w A l) : ∃ os, WyO w l os ∧ ∀ j u, (wyF l os)[j]? = some u → ∃ a, A = some a ∧ w.cell? (a.add j) = some u := by
  rcases h with rfl | ⟨b, off, rfl, h⟩
  · exact ⟨[], WyO.nil w, fun j u e => by simp at e⟩
  · have key : ∀ (l : List Wy) (off : Nat), (∀ i (h : i < l.length), WyAt w b (off + i * 15) l[i]) → ∃ os, WyO w l os ∧ ∀ j u, (wyF l os)[j]? = some u → w.cell? ⟨b, off + j, none⟩ = some u := by
      intro l
      induction l with
      | nil => intro off _; exact ⟨[], WyO.nil w, fun j u e => by simp at e⟩
      | cons x l ih =>
        intro off h
        obtain ⟨os, h1, h3⟩ := ih (off + 15) (fun i hi => by
          have := h (i + 1) (by simpa using hi)
          rw [show off + (i + 1) * 15 = off + 15 + i * 15 by omega] at this
          simpa using this)
        obtain ⟨c0, c1, o, g1, g2⟩ := h 0 (by simp)
        refine ⟨o :: os, ⟨by simp [h1.1], fun i k1 k2 => ?_⟩, fun j u e => ?_⟩
        · cases i with
          | zero => exact g1
          | succ i => exact h1.2 i (by simpa using k1) (by simpa using k2)
        · unfold wyF at e
          rw [List.zipWith_cons_cons, List.flatten_cons] at e
          rcases Nat.lt_or_ge j 15 with hj | hj
          · rw [List.getElem?_append_left (by rw [wyC_len]; exact hj)] at e
            match j, e with
            | 0, e => simp at e; subst e; simpa using c0
            | 1, e => simp at e; subst e; simpa using c1
            | j + 2, e =>
              have := g2 j u (by simpa using e)
              rw [show off + (j + 2) = off + 0 * 15 + 2 + j by omega]
              simpa using this
          · rw [List.getElem?_append_right (by rw [wyC_len]; exact hj), wyC_len] at e
            have := h3 (j - 15) u e
            rw [show off + 15 + (j - 15) = off + j by omega] at this
            exact this
    obtain ⟨os, h1, h2⟩ := key l off h
    exact ⟨os, h1, fun j u e => ⟨_, rfl, by rw [addr_add]; exact h2 j u e⟩⟩
theorem info56 : (Try.prog.info? 56).map (fun i => (i.zero, i.size, i.bytes)) = some (some (.agg #[.int .i64 0, .int .i64 0, .int .i64 0, .int .i64 0, .int .i64 0, .int .i64 0, .string ⟨#[]⟩, .string ⟨#[]⟩, .slice none 0 0, .int .i64 0, .int .i64 0, .string ⟨#[]⟩, .slice none 0 0, .bool false, .int .i64 0]), 15, 176) := by kernel_rfl
theorem one15 {l : List Wy} {os : List Wh} : ∀ u ∈ wyF l os, u.oneCell' = true := by
  intro u hu
  obtain ⟨x, hx, hu⟩ := List.mem_flatten.1 hu
  rw [List.mem_iff_getElem] at hx
  obtain ⟨i, hi, rfl⟩ := hx
  rw [List.getElem_zipWith] at hu
  simp at hu
  rcases hu with rfl | rfl | rfl | rfl | rfl | rfl | rfl | rfl | rfl | rfl | rfl | rfl | rfl | rfl | rfl <;> rfl
/-- A row of ways of the call's own (it began in w0): its value, its letters' places. -/
def OwnW (B : Nat) (w0 w : World) (v : Value) (l : List Wy) : Prop := ∃ os, w.ownsRow B 56 15 v l.length (wyF l os) ∧ WyO w0 l os
theorem OwnW.nil (B : Nat) (w0 w : World) : OwnW B w0 w (.slice none 0 0) [] := ⟨[], World.ownsRow_nil _ _ _ _, WyO.nil w0⟩
theorem OwnW.lit (B : Nat) (w0 w : World) (hb : B ≤ w.heap.size) : OwnW B w0 (w.alloc (.cells #[] 56)) (.slice (some ⟨w.heap.size, 0, none⟩) 0 0) [] := ⟨[], World.ownsRow_lit w #[] 0 hb (Nat.zero_le _) rfl, WyO.nil w0⟩
theorem OwnW.below {B : Nat} {w0 w w' : World} {v : Value} {l : List Wy} (h : OwnW B w0 w v l) (hb : Below w.heap.size w w') : OwnW B w0 w' v l := by
  obtain ⟨os, h1, h2⟩ := h
  exact ⟨os, own_below h1 hb, h2⟩
theorem OwnW.read {B : Nat} {w0 w : World} {v : Value} {l : List Wy} (h : OwnW B w0 w v l) (hb : Below w0.heap.size w0 w) : ∃ A c, v = .slice A l.length c ∧ RdW w A l := by
  obtain ⟨os, h1, h2⟩ := h
  rcases h1.2 with ⟨rfl, h0⟩ | ⟨g, cap, cur, rfl, _⟩
  · have hl : l = [] := List.eq_nil_of_length_eq_zero h0
    subst hl
    exact ⟨none, 0, rfl, .inl rfl⟩
  · exact ⟨_, cap, rfl, own_rdw h1 (h2.keeps (keeps_below hb)) rfl⟩
/-- Its value is a slice. -/
theorem OwnW.slice {B : Nat} {w0 w : World} {v : Value} {l : List Wy} (h : OwnW B w0 w v l) : ∃ A c, v = .slice A l.length c := by
  obtain ⟨os, h1, h2⟩ := h
  rcases h1.2 with ⟨rfl, h0⟩ | ⟨g, cap, cur, rfl, _⟩
  · exact ⟨none, 0, by rw [h0]⟩
  · exact ⟨_, cap, rfl⟩
/-- append(own, l...) -/
theorem app_ways (B : Nat) (w0 W : World) (v : Value) (acc : List Wy) (h : OwnW B w0 W v acc) (hb : Below w0.heap.size w0 W) (hB : B ≤ W.heap.size) (A : Option Addr) (l : List Wy) (c : Nat) (hr : RdW w0 A l) (hn : acc.length + l.length ≤ 1000000) :
    ∃ v' w', (Builtin.append_ #[27, 27] 27 #[v, .slice A l.length c]).run Try.prog W = .ok v' w' ∧ OwnW B w0 w' v' (acc ++ l) ∧ Below B W w' := by
  obtain ⟨i0, hi, hz0, hz1, hz2⟩ := info_parts info56
  obtain ⟨os, h1, h2⟩ := h
  obtain ⟨os2, h3, h4⟩ := hr.cells
  obtain ⟨v', w', g1, g2, g3⟩ := app_any (P := Try.prog) W B 27 27 56 i0 _ 15 176 Try.underlying27 hi hz0 hz1 hz2 rfl (by decide) v acc.length (wyF acc os) h1 A l.length c (wyF l os2) h3.len (fun j u e => by obtain ⟨a, e1, e2⟩ := h4 j u e; exact ⟨a, e1, cell_below hb e2⟩) one15 (by simp only [maxLen]; omega) (by omega) hB
  have e : wyF acc os ++ wyF l os2 = wyF (acc ++ l) (os ++ os2) := by
    unfold wyF
    rw [List.zipWith_append h2.1.symm, List.flatten_append]
  refine ⟨v', w', g1, ⟨os ++ os2, by rw [List.length_append, ← e]; exact g2, ⟨by simp [h2.1, h3.1], fun i k1 k2 => ?_⟩⟩, g3⟩
  have hl := h2.1
  by_cases hi : i < acc.length
  · rw [List.getElem_append_left hi, List.getElem_append_left (by omega)]
    exact h2.2 i hi (by omega)
  · rw [List.getElem_append_right (by omega), List.getElem_append_right (by omega)]
    simp only [hl]
    exact h3.2 (i - acc.length) (by simp at k1; omega) (by simp at k2; omega)
/-- append(own, one) -/
theorem app_way (B : Nat) (w0 W : World) (v : Value) (acc : List Wy) (n : Nat) (hna : acc.length = n) (h : OwnW B w0 W v acc) (hB : B ≤ W.heap.size) (p : Wy) (o : Wh) (ho : LtO w0 p.2 o) (hn : n ≤ 1000000) :
    ∃ v' w', (Builtin.append_ #[27, 27] 27 #[v, .slice (some ⟨W.heap.size, 0, none⟩) 1 1]).run Try.prog (W.alloc (.cells (wyC p o).toArray 56)) = .ok v' w' ∧ (OwnW B w0 w' v' (acc ++ [p]) ∧ Below B W w') := by
  obtain ⟨i0, hi, hz0, hz1, hz2⟩ := info_parts info56
  obtain ⟨os, h1, h2⟩ := h
  have hs := alloc_sz W (.cells (wyC p o).toArray 56)
  obtain ⟨v', w', g1, g2, g3⟩ := app_any (P := Try.prog) (W.alloc (.cells (wyC p o).toArray 56)) B 27 27 56 i0 _ 15 176 Try.underlying27 hi hz0 hz1 hz2 rfl (by decide) v acc.length (wyF acc os) (h1.alloc _) (some ⟨W.heap.size, 0, none⟩) 1 1 (wyC p o) rfl (fun j u e => ⟨_, rfl, by rw [addr_add, Nat.zero_add, of_blk (heap_alloc_new W _) j]; simpa using e⟩) (by intro u hu; simp at hu; rcases hu with rfl | rfl | rfl | rfl | rfl | rfl | rfl | rfl | rfl | rfl | rfl | rfl | rfl | rfl | rfl <;> rfl) (by simp only [maxLen]; omega) (by omega) (by rw [hs]; omega)
  refine ⟨v', w', g1, ⟨os ++ [o], by rw [wyF_snoc h2, List.length_append]; exact g2, h2.snoc ho⟩, ?_⟩
  exact ((Below.refl _ _).alloc hB _).trans g3
end Go.Proofs.Ytmflalnajinejaa.T
