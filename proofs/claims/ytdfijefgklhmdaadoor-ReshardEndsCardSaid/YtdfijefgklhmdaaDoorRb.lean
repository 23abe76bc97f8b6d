import Derived.Deep.DeepCutAuto
import Derived.Laws.OwnMore
import Derived.OwnWalk
import Derived.Lib.AppendStr
import Derived.Lib.SliceRun
import Derived.Lib.SmallJoins
import Derived.IntWalk
import Derived.Lib.ItoaLen
import Derived.Test.YtdfijefgklhmdaaDoorProg
import Derived.Test.YtdfijefgklhmdaaDoorShelf
import Derived.Test.YtdfijefgklhmdaaDoorMem
import Derived.Test.YtdfijefgklhmdaaDoorR1
import Derived.Test.YtdfijefgklhmdaaDoorRa
import Derived.WalkKit
import Derived.Outline
import Derived.WalkLawsBesides
import Derived.Deep.QuietTactic
import Derived.BigQuiet
import Derived.Lib.Hide
import Derived.Handy
import Derived.Deep.RegionHeld3
import Derived.Deep.DrawnRows
import Derived.KernelRfl
import Derived.Great.Walk
import Derived.Test.YtdfijefgklhmdaaDoorOwn
namespace Go.Proofs.YtdfijefgklhmdaaDoor.T
open Go Go.RowKit Go.Sort Mem Own
set_option maxRecDepth 100000
set_option maxHeartbeats 1000000
set_option linter.unusedVariables false
set_option linter.unusedSimpArgs false

theorem of_blk {w : World} {b T : Nat} {vs : Array Value} (h : w.heap[b]? = some (.cells vs T (0, 0))) (j : Nat) : w.cell? ⟨b, j, none⟩ = vs[j]? := by simp [World.cell?, h]
theorem of_blk_free {w : World} {b T : Nat} {vs : Array Value} (h : w.heap[b]? = some (.cells vs T (0, 0))) (j : Nat) : w.frozen? ⟨b, j, none⟩ = false := by simp [World.frozen?, h]
theorem facts3 {w : World} {b T : Nat} {v0 v1 v2 : Value} (h : w.heap[b]? = some (.cells #[v0, v1, v2] T (0, 0))) :
    w.cell? ⟨b, 0, none⟩ = some v0 ∧ w.cell? ⟨b, 1, none⟩ = some v1 ∧ w.cell? ⟨b, 2, none⟩ = some v2 := ⟨of_blk h 0, of_blk h 1, of_blk h 2⟩
theorem facts8 {w : World} {b T : Nat} {v0 v1 v2 v3 v4 v5 v6 v7 : Value} (h : w.heap[b]? = some (.cells #[v0, v1, v2, v3, v4, v5, v6, v7] T (0, 0))) :
    w.cell? ⟨b, 0, none⟩ = some v0 ∧ w.cell? ⟨b, 1, none⟩ = some v1 ∧ w.cell? ⟨b, 2, none⟩ = some v2 ∧ w.cell? ⟨b, 3, none⟩ = some v3 ∧ w.cell? ⟨b, 4, none⟩ = some v4 ∧ w.cell? ⟨b, 5, none⟩ = some v5 ∧ w.cell? ⟨b, 6, none⟩ = some v6 ∧ w.cell? ⟨b, 7, none⟩ = some v7 :=
  ⟨of_blk h 0, of_blk h 1, of_blk h 2, of_blk h 3, of_blk h 4, of_blk h 5, of_blk h 6, of_blk h 7⟩
theorem free8 {w : World} {b T : Nat} {v0 v1 v2 v3 v4 v5 v6 v7 : Value} (h : w.heap[b]? = some (.cells #[v0, v1, v2, v3, v4, v5, v6, v7] T (0, 0))) :
    w.frozen? ⟨b, 0, none⟩ = false ∧ w.frozen? ⟨b, 1, none⟩ = false ∧ w.frozen? ⟨b, 2, none⟩ = false ∧ w.frozen? ⟨b, 3, none⟩ = false ∧ w.frozen? ⟨b, 4, none⟩ = false ∧ w.frozen? ⟨b, 5, none⟩ = false ∧ w.frozen? ⟨b, 6, none⟩ = false ∧ w.frozen? ⟨b, 7, none⟩ = false :=
  ⟨of_blk_free h 0, of_blk_free h 1, of_blk_free h 2, of_blk_free h 3, of_blk_free h 4, of_blk_free h 5, of_blk_free h 6, of_blk_free h 7⟩
theorem heap_set {w : World} {b i : Nat} {cs : Array Value} {T : TypeId} {fr : Nat × Nat} (hb : w.heap[b]? = some (.cells cs T fr)) (v : Value) :
    (w.setCell ⟨b, i, none⟩ v).heap[b]? = some (.cells (cs.setIfInBounds i v) T fr) := by
  simp [World.setCell, Array.getElem?_modify, hb]
theorem blk_other {w : World} {b i k : Nat} {v : Value} {o : Obj} (hne : k ≠ b) (h : w.heap[k]? = some o) : (w.setCell ⟨b, i, none⟩ v).heap[k]? = some o := by
  rw [Below.heap_setCell _ _ _ _ hne]; exact h
theorem info37 : (Tryd.prog.info? 37).map (fun i => (i.zero, i.size, i.bytes)) = some (some (.agg #[.int .i64 0, .int .i64 0, .int .i64 0]), 3, 24) := by kernel_rfl
def mvs (l : List Mv) : List Value := l.flatMap mvC
theorem mvs_len (l : List Mv) : (mvs l).length = l.length * 3 := by
  induction l with
  | nil => rfl
  | cons p l ih => simp [mvs, mvC] at ih ⊢; omega
theorem mvs_split : ∀ (l : List Mv) (j : Nat) (u : Value), (mvs l)[j]? = some u → ∃ i m, l[i]? = some m ∧ ((j = i * 3 ∧ u = .int .i64 m.s) ∨ (j = i * 3 + 1 ∧ u = .int .i64 m.f) ∨ (j = i * 3 + 2 ∧ u = .int .i64 m.t))
  | [], j, u, h => by simp [mvs] at h
  | q :: l, 0, u, h => ⟨0, q, rfl, .inl ⟨rfl, by simp [mvs, mvC] at h; exact h.symm⟩⟩
  | q :: l, 1, u, h => ⟨0, q, rfl, .inr (.inl ⟨rfl, by simp [mvs, mvC] at h; exact h.symm⟩)⟩
  | q :: l, 2, u, h => ⟨0, q, rfl, .inr (.inr ⟨rfl, by simp [mvs, mvC] at h; exact h.symm⟩)⟩
  | q :: l, j + 3, u, h => by
    obtain ⟨i, p, h1, h2⟩ := mvs_split l j u (by simpa [mvs, mvC] using h)
    refine ⟨i + 1, p, by simpa using h1, ?_⟩
    rcases h2 with ⟨e, h⟩ | ⟨e, h⟩ | ⟨e, h⟩
    · exact .inl ⟨by omega, h⟩
    · exact .inr (.inl ⟨by omega, h⟩)
    · exact .inr (.inr ⟨by omega, h⟩)
theorem mvs_get : ∀ (l : List Mv) (i : Nat) (m : Mv), l[i]? = some m → (mvs l)[i * 3]? = some (.int .i64 m.s) ∧ (mvs l)[i * 3 + 1]? = some (.int .i64 m.f) ∧ (mvs l)[i * 3 + 2]? = some (.int .i64 m.t)
  | [], i, p, h => by simp at h
  | q :: l, 0, p, h => by simp at h; subst h; simp [mvs, mvC]
  | q :: l, i + 1, p, h => by
    have := mvs_get l i p (by simpa using h)
    rw [show (i + 1) * 3 = i * 3 + 3 by omega]
    simpa [mvs, mvC] using this
theorem add_off (b off j : Nat) : (⟨b, off, none⟩ : Addr).add j = ⟨b, off + j, none⟩ := by
  by_cases h : j = 0
  · subst h; simp [Addr.add]
  · simp [Addr.add, h]
theorem newsM {w : World} {a : Addr} {l : List Mv} (ha : RdM w (some a) l) : ∀ j u, (mvs l)[j]? = some u → w.cell? (a.add j) = some u := by
  intro j u hu
  rcases ha with rfl | ⟨b, off, e, hc⟩
  · simp [mvs] at hu
  · cases e
    obtain ⟨i, p, hp, h⟩ := mvs_split l j u hu
    rw [add_off]
    rcases h with ⟨rfl, rfl⟩ | ⟨rfl, rfl⟩ | ⟨rfl, rfl⟩
    · exact (hc i p hp).1
    · exact (hc i p hp).2.1
    · exact (hc i p hp).2.2
theorem ownM_slice {w : World} {B n : Nat} {v : Value} {xs : List Value} (h : w.ownsRow B 37 3 v n xs) : ∃ A c, v = .slice A n c := by
  rcases h.2 with ⟨rfl, rfl⟩ | ⟨g, cap, cur, rfl, _⟩
  · exact ⟨none, 0, rfl⟩
  · exact ⟨_, _, rfl⟩
theorem ownM_rd {w : World} {B n : Nat} {A : Option Addr} {c : Nat} {l : List Mv} (h : w.ownsRow B 37 3 (.slice A n c) n (mvs l)) : RdM w A l ∧ n = l.length ∧ n ≤ c := by
  have h' := h
  have hl : n = l.length := by have := h.1; rw [mvs_len] at this; omega
  rcases h.2 with ⟨e, h0⟩ | ⟨g, cap, cur, e, _, hg, hnc, hcm, _⟩
  · injection e with e1 e2 e3
    exact ⟨.inl (List.eq_nil_of_length_eq_zero (by omega)), hl, by omega⟩
  · injection e with e1 e2 e3
    subst e1; subst e3
    refine ⟨.inr ⟨g, 0, rfl, fun i x hx => ?_⟩, hl, hnc⟩
    have hi : i < l.length := (List.getElem?_eq_some_iff.1 hx).1
    have hg := mvs_get l i x hx
    rw [Nat.zero_add, h'.cellAt (i * 3) (by omega), h'.cellAt (i * 3 + 1) (by omega), h'.cellAt (i * 3 + 2) (by omega)]
    exact hg
theorem own_bel {w w1 : World} {T : TypeId} {sz Bk n : Nat} {v : Value} {xs : List Value} (h : w.ownsRow Bk T sz v n xs) (hb : Below w.heap.size w w1) : w1.ownsRow Bk T sz v n xs := by
  refine ⟨h.1, ?_⟩
  rcases h.2 with e | ⟨g, cap, cur, e, h1, h2, h3⟩
  · exact .inl e
  · exact .inr ⟨g, cap, cur, e, h1, by rw [hb.block g (Array.getElem?_eq_some_iff.1 h2).1]; exact h2, h3⟩
theorem keep_block {w w1 : World} {b : Nat} {o : Obj} (hb : Below w.heap.size w w1) (h : w.heap[b]? = some o) : w1.heap[b]? = some o := by
  rw [hb.block b (lt_of_block h)]; exact h
/-- slices.Clone of moves -/
theorem cloneM_is (A : Option Addr) (l : List Mv) (c : Nat) (w : World) (ha : RdM w A l) (hn : l.length ≤ 1000) :
    Calls Tryd.prog 22 #[.slice A l.length c] w fun e w' => ∃ C k, e = .returned (.slice C l.length k) ∧ RowKit.Hid (w'.ownsRow w.heap.size 37 3 (.slice C l.length k) l.length (mvs l)) ∧ Below w.heap.size w w' := by
  obtain ⟨i0, hi, hz0, hz1, hz2⟩ := info_parts info37
  cases A with
  | none =>
    have hl : l = [] := by
      rcases ha with h | ⟨b, off, h, _⟩
      · exact h
      · cases h
    subst hl
    have kq := fun w' : World => Lib.run_eql_slice_nil (P := Tryd.prog) w' 22 37 none 0 c 0 0 Tryd.underlying22
    go_enter Tryd.func22, Tryd.ntmps22
    go_wp2
    go_ret
    exact ⟨none, 0, rfl, Lib.hid (World.ownsRow_nil _ _ _ _), (by ((repeat (first | exact Below.refl _ _ | (refine Below.drew ?_) | (refine Go.below_drewN ?_ _) | (refine Below.alloc ?_ (by first | (simp; done) | omega | (simp; omega)) _) | (refine Below.setCell ?_ (by first | (simp; done) | omega | (simp; omega)) _) | (refine Below.trans ?_ (Below.mono (by assumption) (by first | (simp; done) | omega | (simp; omega)))))); done))⟩
  | some a =>
    have HN := Lib.hid (fun j u h => cell_below ((Below.refl w.heap.size w).alloc (Nat.le_refl _) (.cells #[] 37)) (newsM ha j u h))
    have HL := Lib.hid (World.ownsRow_lit (e := 37) (size := 3) w #[] 0 (Nat.le_refl _) (by decide) rfl)
    have hlen : (mvs l).length = l.length * 3 := mvs_len l
    obtain ⟨M, hM⟩ : ∃ M, M = l.length := ⟨_, rfl⟩
    rw [← hM] at hlen hn ⊢
    obtain ⟨nw, hnw⟩ : ∃ nw, nw = mvs l := ⟨_, rfl⟩
    have H1 := Lib.hid (show ∀ u ∈ mvs l, u.oneCell' = true by intro u hu; simp only [mvs, List.mem_flatMap] at hu; obtain ⟨x, _, hu⟩ := hu; simp [mvC] at hu; rcases hu with rfl | rfl | rfl <;> rfl)
    rw [← hnw] at HN hlen H1 ⊢
    have HLN := Lib.hid hlen
    clear ha hnw hlen hM
    have kq := fun w' : World => Lib.run_eql_slice_nil (P := Tryd.prog) w' 22 37 (some a) M c 0 0 Tryd.underlying22
    go_enter Tryd.func22, Tryd.ntmps22
    go_wp2_with (at_builtin; refine wpList_append_own _ rfl (.tmp 5) (.tmp 6) 22 rfl w.heap.size 37 i0 _ 3 24 Tryd.underlying22 hi hz0 hz1 hz2 rfl (by decide) (.slice (some ⟨w.heap.size, 0, none⟩) 0 0) 0 [] rfl HL.out a M c nw rfl HLN.out HN.out H1.out (by unfold maxLen; omega) (by omega) (by rw [alloc_size]; omega) ?_; intro v1 w1 hown hg _; have HO1 := Lib.hid (show w1.ownsRow w.heap.size 37 3 v1 M nw by rw [Nat.zero_add] at hown; exact hown); have HB1 := Lib.hid (((Below.refl w.heap.size w).alloc (Nat.le_refl _) (.cells #[] 37)).trans ((Below.refl w.heap.size (w.alloc (.cells #[] 37))).grown hg (by rw [alloc_size]; omega) (fun k hk => (HL.out.lt k hk).1))); clear hown hg)
    go_ret
    obtain ⟨C, k, rfl⟩ := ownM_slice HO1.out
    exact ⟨C, k, rfl, HO1, HB1.out⟩
def okM (m : Mv) : Prop := 0 ≤ m.s ∧ m.s < 16384 ∧ (0 ≤ m.f ∧ m.f < 64) ∧ (0 ≤ m.t ∧ m.t < 64) ∧ m.f ≠ m.t
def okAt (l : List Mv) (i : Nat) : Prop := ∀ m, l[i]? = some m → okM m ∧ ¬ ∃ m' ∈ l.take i, m'.s = m.s
def okP (l : List Mv) : Prop := ∀ i, i < l.length → okAt l i
def badBT (B T : Int) : Prop := B < 1 ∨ 100 < B ∨ T < 0 ∨ 549755813888 < T
open Classical in
/-- What New tells of a plan. -/
noncomputable def newErr (l : List Mv) (B T : Int) : Int := if 1000 < l.length ∨ ¬ okP l then 200 else if badBT B T then 1 else 0
theorem newErr_long {l : List Mv} {B T : Int} (h : 1000 < l.length) : newErr l B T = 200 := by unfold newErr; rw [if_pos (.inl h)]
theorem newErr_bad {l : List Mv} {B T : Int} {i : Nat} (hi : i < l.length) (h : ¬ (okM l[i] ∧ ¬ ∃ m' ∈ l.take i, m'.s = l[i].s)) : newErr l B T = 200 := by
  unfold newErr; rw [if_pos (.inr (fun hp => h (hp i hi _ (List.getElem?_eq_getElem hi))))]
theorem newErr_arg {l : List Mv} {B T : Int} (h1 : l.length ≤ 1000) (h2 : okP l) (h3 : badBT B T) : newErr l B T = 1 := by
  unfold newErr; rw [if_neg (by intro h; rcases h with h | h; omega; exact h h2), if_pos h3]
theorem newErr_ok {l : List Mv} {B T : Int} (h1 : l.length ≤ 1000) (h2 : okP l) (h3 : ¬ badBT B T) : newErr l B T = 0 := by
  unfold newErr; rw [if_neg (by intro h; rcases h with h | h; omega; exact h h2), if_neg h3]
/-- What New leaves. -/
def NewOut (l : List Mv) (B T : Int) (w : World) (e : Ending) (w' : World) : Prop :=
  (newErr l B T ≠ 0 ∧ e = .returned (.tuple #[.pointer none, .int .i64 (newErr l B T)]) ∧ Below w.heap.size w w') ∨
  (newErr l B T = 0 ∧ ∃ (g : Nat) (C : Option Addr) (k : Nat), e = .returned (.tuple #[.pointer (some ⟨g, 0, none⟩), .int .i64 0]) ∧ w.heap.size ≤ g ∧
    RowKit.Hid (w'.heap[g]? = some (.cells #[.slice C l.length k, .int .i64 B, .int .i64 T, .int .i64 0, .int .i64 0, .slice none 0 0, .int .i64 0, .bool false] 60 (0, 0))) ∧ RowKit.Hid (w'.ownsRow w.heap.size 37 3 (.slice C l.length k) l.length (mvs l)) ∧ Below w.heap.size w w')
theorem new_bad {l : List Mv} {B T c : Int} {w w' : World} (h : newErr l B T = c) (hc : c ≠ 0) (hb : Below w.heap.size w w') : NewOut l B T w (.returned (.tuple #[.pointer none, .int .i64 c])) w' :=
  .inl ⟨by rw [h]; exact hc, by rw [h], hb⟩
end Go.Proofs.YtdfijefgklhmdaaDoor.T
