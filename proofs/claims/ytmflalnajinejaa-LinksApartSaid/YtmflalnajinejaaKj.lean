import Derived.Deep.DeepCutAuto
import Derived.Laws.OwnMore
import Derived.OwnWalk
import Derived.Lib.AppendStr
import Derived.Lib.SliceRun
import Derived.Lib.SmallJoins
import Derived.IntWalk
import Derived.WalkMore
import Derived.Lib.OthersKept
import Derived.Deep.LoopGhost
import Derived.Deep.RegionLaw
import Derived.Deep.AppendLies
import Derived.Test.YtmflalnajinejaaProg
import Derived.Test.YtmflalnajinejaaMem
import Derived.Test.YtmflalnajinejaaBlk
import Derived.Test.YtmflalnajinejaaAp
import Derived.Test.YtmflalnajinejaaKd
import Derived.Test.YtmflalnajinejaaKe
import Derived.Test.YtmflalnajinejaaKf
import Derived.Test.YtmflalnajinejaaKi
import Derived.Test.YtmflalnajinejaaOwn
import Derived.WalkKit
import Derived.Outline
import Derived.WalkLawsBesides
import Derived.Deep.QuietTactic
import Derived.BigQuiet
import Derived.Lib.Hide
import Derived.Handy
import Derived.Deep.RegionHeld3
import Derived.Deep.DrawnRows
import Derived.KernelRfl
import Derived.Great.Walk
import Derived.Test.YtmflalnajinejaaOwn
namespace Go.Proofs.Ytmflalnajinejaa.T
open Go Go.RowKit Go.Sort Mem Own
set_option maxRecDepth 100000
set_option maxHeartbeats 1000000
set_option linter.unusedVariables false
set_option linter.unusedSimpArgs false

/-- A reply of few and shallow lists. -/
def Tiny (x : T) : Prop := ∃ d, smallB d x = true
theorem Tiny.len {x : T} (h : Tiny x) : x.l.length ≤ 50 := by
  obtain ⟨d, h⟩ := h
  rw [smallB_mk] at h
  simp at h
  omega
theorem Tiny.mem {x y : T} (h : Tiny x) (hy : y ∈ x.l) : Tiny y := by
  obtain ⟨d, h⟩ := h
  rw [smallB_mk] at h
  simp only [Bool.and_eq_true, List.all_eq_true] at h
  exact ⟨d + 1, h.2 y hy⟩
theorem tiny_fit : ∀ (n : Nat) (x : T), x.sz ≤ n → Tiny x → Fit x := by
  intro n
  induction n with
  | zero => intro x h; have := sz_pos x; omega
  | succ n ih =>
    intro x hs h
    have hl := h.len
    have hm : ∀ y ∈ x.l, Fit y := fun y hy => ih y (by have := sz_lt hy; omega) (h.mem hy)
    obtain ⟨k, z, t, l⟩ := x
    exact .mk (by have : l.length ≤ 50 := hl; omega) hm
theorem Tiny.fit {x : T} (h : Tiny x) : Fit x := tiny_fit x.sz x (Nat.le_refl _) h
/-- All cells from block B on stand. -/
def KeepsFrom (B : Nat) (w w' : World) : Prop := ∀ p v, B ≤ p.block → w.cell? p = some v → w'.cell? p = some v
theorem KeepsFrom.refl (B : Nat) (w : World) : KeepsFrom B w w := fun _ _ _ h => h
theorem KeepsFrom.trans {B : Nat} {a b c : World} (h : KeepsFrom B a b) (h' : KeepsFrom B b c) : KeepsFrom B a c := fun p v e f => h' p v e (h p v e f)
theorem KeepsFrom.mono {B B' : Nat} {a b : World} (h : KeepsFrom B a b) (hb : B ≤ B') : KeepsFrom B' a b := fun p v e f => h p v (Nat.le_trans hb e) f
theorem Keeps.fromAt {a b : World} (h : Keeps a b) (B : Nat) : KeepsFrom B a b := fun p v _ f => h p v f
theorem keepsFrom_set {B b i : Nat} {w : World} {v : Value} (h : b < B) : KeepsFrom B w (w.setCell ⟨b, i, none⟩ v) := fun p u e f => cell_off f (by omega)
/-- A reply whose rows all lie from block B on. -/
def RdO (B : Nat) (w : World) (A : Option Addr) (x : T) : Prop := ∀ w', KeepsFrom B w w' → RdT w' A x
theorem RdO.rd {B : Nat} {w : World} {A : Option Addr} {x : T} (h : RdO B w A x) : RdT w A x := h w (KeepsFrom.refl _ _)
theorem RdO.keeps {B : Nat} {w w' : World} {A : Option Addr} {x : T} (h : RdO B w A x) (hk : KeepsFrom B w w') : RdO B w' A x := fun w'' h' => h w'' (hk.trans h')
theorem RdO.mono {B B' : Nat} {w : World} {A : Option Addr} {x : T} (h : RdO B' w A x) (hb : B ≤ B') : RdO B w A x := fun w' h' => h w' (h'.mono hb)
/-- The row while it is being copied. -/
def RowP (l : List T) (i g : Nat) (w0 w : World) (cur : Array Value) : Prop :=
  ∀ j (hj : j < l.length), ∃ A c, cur[j * 4]? = some (.int .i64 l[j].k) ∧ cur[j * 4 + 1]? = some (.int .i64 l[j].z) ∧ cur[j * 4 + 2]? = some (.string l[j].t) ∧ cur[j * 4 + 3]? = some (.slice A l[j].l.length c) ∧ (j < i → RdO (g + 1) w A l[j]) ∧ (i ≤ j → RdT w0 A l[j])
/-- What the copying loop keeps. -/
def CInv (l : List T) (k z : Int) (t : ByteArray) (g cap i : Nat) (w wr : World) : Prop :=
  ∃ cur, wr.heap[g]? = some (.cells cur 31 (0, 0)) ∧ cur.size = cap * 4 ∧ RowP l i g w wr cur ∧ wr.heap[w.heap.size]? = some (.cells #[.int .i64 k, .int .i64 z, .string t, .slice (some ⟨g, 0, none⟩) l.length cap] 31 (0, 0)) ∧ wr.heap[w.heap.size + 1]? = some (.cells #[.int .i64 0, .int .i64 0, .string ⟨#[]⟩, .slice none 0 0] 31 (0, 0)) ∧ Below w.heap.size w wr
theorem cl_row {A : Option Addr} {l : List T} {w W w' : World} {e : Ending} {n : Nat} (hn : l.length = n) (hr : RdA w A l) (hb : Below w.heap.size w W) (h : Cl 31 4 A n W e w') {a : Addr} (hA : A = some a) :
    ∃ g cap cur, e = .returned (.slice (some ⟨g, 0, none⟩) n cap) ∧ W.heap.size ≤ g ∧ n ≤ cap ∧ cap ≤ maxLen ∧ w'.heap[g]? = some (.cells cur 31 (0, 0)) ∧ cur.size = cap * 4 ∧ RowP l 0 g w w' cur ∧ Below W.heap.size W w' := by
  obtain ⟨h1, h2⟩ := h
  rcases h2 with ⟨e1, _⟩ | ⟨g, cap, cur, _, rfl, h3, h4, h5, h6, h7, h8⟩
  · rw [hA] at e1; cases e1
  refine ⟨g, cap, cur, rfl, h3, h4, h5, h6, h7, fun j hj => ?_, h1⟩
  obtain ⟨b, off, rfl, hrow⟩ := hr.row (Nat.zero_lt_of_lt hj)
  obtain ⟨A1, c1, g0, g1, g2, g3, g4⟩ := (hrow.below hb).at hj
  obtain ⟨A2, c2, k0, k1, k2, k3, k4⟩ := hrow.at hj
  have e3 : A1 = A2 ∧ c1 = c2 := by
    have := cell_below hb k3
    rw [g3] at this
    injection this with this; injection this with q1 _ q3
    exact ⟨q1, q3⟩
  obtain ⟨rfl, rfl⟩ := e3
  have q : ∀ t, t < 4 → W.cell? ⟨b, off + j * 4 + t, none⟩ = cur[j * 4 + t]? := by
    intro t ht
    rw [← h8 (j * 4 + t) (by omega)]
    show _ = W.cell? ((⟨b, off, none⟩ : Addr).add (j * 4 + t))
    rw [addr_add, Nat.add_assoc]
  refine ⟨A1, c1, ?_, ?_, ?_, ?_, fun h => by omega, fun _ => k4⟩
  · have q0 := q 0 (by omega)
    simp only [Nat.add_zero] at q0
    rw [← q0]; exact g0
  · rw [← q 1 (by omega)]; exact g1
  · rw [← q 2 (by omega)]; exact g2
  · rw [← q 3 (by omega)]; exact g3
theorem cl_pre {A : Option Addr} {l : List T} {w : World} (hr : RdA w A l) : ∀ j, j < l.length * 4 → ∃ a u, A = some a ∧ w.cell? (a.add j) = some u ∧ u.oneCell' = true := by
  intro j hj
  have hi : j / 4 < l.length := by omega
  obtain ⟨b, off, rfl, hrow⟩ := hr.row (Nat.zero_lt_of_lt hi)
  obtain ⟨A1, c1, g0, g1, g2, g3, g4⟩ := hrow.at hi
  have hd : off + j = off + j / 4 * 4 + j % 4 := by omega
  rcases (show j % 4 = 0 ∨ j % 4 = 1 ∨ j % 4 = 2 ∨ j % 4 = 3 by omega) with h | h | h | h
  · exact ⟨_, _, rfl, by rw [addr_add, hd, h]; exact g0, rfl⟩
  · exact ⟨_, _, rfl, by rw [addr_add, hd, h]; exact g1, rfl⟩
  · exact ⟨_, _, rfl, by rw [addr_add, hd, h]; exact g2, rfl⟩
  · exact ⟨_, _, rfl, by rw [addr_add, hd, h]; exact g3, rfl⟩
theorem ret_one {fn : Func} {p : Nat} {tmps : Array Value} {w : World} {R : Ending → World → Prop} {b T : Nat} {v0 v1 v2 v3 : Value} (hfn : fn.results = #[.cell p 31])
    (h4 : tmps[p]?.getD undef = .pointer (some ⟨b, 0, none⟩)) (hb : w.heap[b]? = some (.cells #[v0, v1, v2, v3] T (0, 0)))
    (hR : R (.returned (.agg #[v0, v1, v2, v3])) w) : bodyPost Try.prog fn R .ret { tmps := tmps, defers := [] } w := by
  obtain ⟨c0, c1, c2, c3⟩ := cells4 hb
  refine bodyPost_ret (v := .agg #[v0, v1, v2, v3]) ?_ rfl hR
  simp [results, hfn, go_sem, h4, c0, c1, c2, c3]
/-- The row when all is copied. -/
theorem rowP_done {l : List T} {g B : Nat} {w0 w : World} {cur : Array Value} (hB : B ≤ g) (hg : w.heap[g]? = some (.cells cur 31 (0, 0))) (h : RowP l l.length g w0 w cur) (k z : Int) (t : ByteArray) : RdO B w (some ⟨g, 0, none⟩) (.mk k z t l) := by
  intro w' hk
  refine .inr ⟨g, 0, rfl, RdRow.mk fun j hj => ?_⟩
  obtain ⟨A, c, h0, h1, h2, h3, h4, _⟩ := h j hj
  refine ⟨A, c, hk _ _ hB ?_, hk _ _ hB ?_, hk _ _ hB ?_, hk _ _ hB ?_, ((h4 hj).mono (Nat.le_succ_of_le hB)) w' hk⟩
  · rw [of_blk hg, Nat.zero_add]; exact h0
  · rw [of_blk hg, Nat.zero_add]; exact h1
  · rw [of_blk hg, Nat.zero_add]; exact h2
  · rw [of_blk hg, Nat.zero_add]; exact h3
/-- One more is copied. -/
theorem rowP_step {l : List T} {g i : Nat} {w0 w w2 : World} {cur : Array Value} {A : Option Addr} {c : Nat} (hi : i < l.length) (h : RowP l i g w0 w cur) (hs : l.length * 4 ≤ cur.size) (hk : KeepsFrom (g + 1) w w2) (hrd : RdO (g + 1) w2 A l[i]) :
    RowP l (i + 1) g w0 w2 ((((cur.setIfInBounds (i * 4) (.int .i64 l[i].k)).setIfInBounds (i * 4 + 1) (.int .i64 l[i].z)).setIfInBounds (i * 4 + 2) (.string l[i].t)).setIfInBounds (i * 4 + 3) (.slice A l[i].l.length c)) := by
  intro j hj
  by_cases e : j = i
  · subst e
    refine ⟨A, c, ?_, ?_, ?_, ?_, fun _ => hrd, fun h => by omega⟩
    all_goals simp only [Array.getElem?_setIfInBounds, Array.size_setIfInBounds]; simp; omega
  · obtain ⟨A1, c1, h0, h1, h2, h3, h4, h5⟩ := h j hj
    refine ⟨A1, c1, ?_, ?_, ?_, ?_, fun h => (h4 (by omega)).keeps hk, fun h => h5 (by omega)⟩
    · rw [Array.getElem?_setIfInBounds_ne (by omega), Array.getElem?_setIfInBounds_ne (by omega), Array.getElem?_setIfInBounds_ne (by omega), Array.getElem?_setIfInBounds_ne (by omega)]; exact h0
    · rw [Array.getElem?_setIfInBounds_ne (by omega), Array.getElem?_setIfInBounds_ne (by omega), Array.getElem?_setIfInBounds_ne (by omega), Array.getElem?_setIfInBounds_ne (by omega)]; exact h1
    · rw [Array.getElem?_setIfInBounds_ne (by omega), Array.getElem?_setIfInBounds_ne (by omega), Array.getElem?_setIfInBounds_ne (by omega), Array.getElem?_setIfInBounds_ne (by omega)]; exact h2
    · rw [Array.getElem?_setIfInBounds_ne (by omega), Array.getElem?_setIfInBounds_ne (by omega), Array.getElem?_setIfInBounds_ne (by omega), Array.getElem?_setIfInBounds_ne (by omega)]; exact h3
/-- A block turned in four cells. -/
theorem blk_set4 {w : World} {g o T : Nat} {cur : Array Value} (h : w.heap[g]? = some (.cells cur T (0, 0))) (u0 u1 u2 u3 : Value) :
    ((((w.setCell ⟨g, o, none⟩ u0).setCell ⟨g, o + 1, none⟩ u1).setCell ⟨g, o + 2, none⟩ u2).setCell ⟨g, o + 3, none⟩ u3).heap[g]? = some (.cells ((((cur.setIfInBounds o u0).setIfInBounds (o + 1) u1).setIfInBounds (o + 2) u2).setIfInBounds (o + 3) u3) T (0, 0)) :=
  blk_set (blk_set (blk_set (blk_set h u0) u1) u2) u3
theorem kf_set4 {w : World} {B g o : Nat} (hB : g < B) (u0 u1 u2 u3 : Value) : KeepsFrom B w ((((w.setCell ⟨g, o, none⟩ u0).setCell ⟨g, o + 1, none⟩ u1).setCell ⟨g, o + 2, none⟩ u2).setCell ⟨g, o + 3, none⟩ u3) :=
  (((keepsFrom_set hB).trans (keepsFrom_set hB)).trans (keepsFrom_set hB)).trans (keepsFrom_set hB)
end Go.Proofs.Ytmflalnajinejaa.T
