import Derived.Test.YtdpgkihecpjijaaDoorProg
import Derived.Test.YtdpgkihecpjijaaDoorMem
import Derived.Test.YtdpgkihecpjijaaDoorVa
import Derived.Test.YtdpgkihecpjijaaDoorVb
import Derived.Test.YtdpgkihecpjijaaDoorVc
import Derived.Test.YtdpgkihecpjijaaDoorVd
import Derived.Test.YtdpgkihecpjijaaDoorVe
import Derived.WalkKit
import Derived.Outline
import Derived.WalkLawsBesides
import Derived.Deep.QuietTactic
import Derived.BigQuiet
import Derived.Lib.Hide
import Derived.Handy
import Derived.Deep.RegionHeld3
import Derived.Deep.DrawnRows
import Derived.KernelRfl
import Derived.Sort.Walk0
import Derived.Great.Walk
import Derived.Test.YtdpgkihecpjijaaDoorOwn
namespace Go.Proofs.YtdpgkihecpjijaaDoor.T
open Go Go.RowKit Mem Own
set_option maxRecDepth 100000
set_option maxHeartbeats 1000000
set_option linter.unusedVariables false
set_option linter.unusedSimpArgs false

/-- A block of six cells: a value. -/
theorem of_blk {w : World} {b T : Nat} {vs : Array Value} (h : w.heap[b]? = some (.cells vs T (0, 0))) (j : Nat) : w.cell? ⟨b, j, none⟩ = vs[j]? := by simp [World.cell?, h]
theorem of_blk_free {w : World} {b T : Nat} {vs : Array Value} (h : w.heap[b]? = some (.cells vs T (0, 0))) (j : Nat) : w.frozen? ⟨b, j, none⟩ = false := by simp [World.frozen?, h]
theorem facts6 {w : World} {b T : Nat} {v0 v1 v2 v3 v4 v5 : Value} (h : w.heap[b]? = some (.cells #[v0, v1, v2, v3, v4, v5] T (0, 0))) :
    w.cell? ⟨b, 0, none⟩ = some v0 ∧ w.cell? ⟨b, 1, none⟩ = some v1 ∧ w.cell? ⟨b, 2, none⟩ = some v2 ∧ w.cell? ⟨b, 3, none⟩ = some v3 ∧ w.cell? ⟨b, 4, none⟩ = some v4 ∧ w.cell? ⟨b, 5, none⟩ = some v5 :=
  ⟨of_blk h 0, of_blk h 1, of_blk h 2, of_blk h 3, of_blk h 4, of_blk h 5⟩
theorem free6 {w : World} {b T : Nat} {v0 v1 v2 v3 v4 v5 : Value} (h : w.heap[b]? = some (.cells #[v0, v1, v2, v3, v4, v5] T (0, 0))) :
    w.frozen? ⟨b, 0, none⟩ = false ∧ w.frozen? ⟨b, 1, none⟩ = false ∧ w.frozen? ⟨b, 2, none⟩ = false ∧ w.frozen? ⟨b, 3, none⟩ = false ∧ w.frozen? ⟨b, 4, none⟩ = false ∧ w.frozen? ⟨b, 5, none⟩ = false :=
  ⟨of_blk_free h 0, of_blk_free h 1, of_blk_free h 2, of_blk_free h 3, of_blk_free h 4, of_blk_free h 5⟩
theorem heap_set {w : World} {b i : Nat} {cs : Array Value} {T : TypeId} {fr : Nat × Nat} (hb : w.heap[b]? = some (.cells cs T fr)) (v : Value) :
    (w.setCell ⟨b, i, none⟩ v).heap[b]? = some (.cells (cs.setIfInBounds i v) T fr) := by
  simp [World.setCell, Array.getElem?_modify, hb]
theorem set6 {w : World} {b T : Nat} {v0 v1 v2 v3 v4 v5 : Value} (u0 u1 u2 u3 u4 u5 : Value) (h : w.heap[b]? = some (.cells #[v0, v1, v2, v3, v4, v5] T (0, 0))) :
    ((((((w.setCell ⟨b, 0, none⟩ u0).setCell ⟨b, 1, none⟩ u1).setCell ⟨b, 2, none⟩ u2).setCell ⟨b, 3, none⟩ u3).setCell ⟨b, 4, none⟩ u4).setCell ⟨b, 5, none⟩ u5).heap[b]? = some (.cells #[u0, u1, u2, u3, u4, u5] T (0, 0)) := by
  have h1 := heap_set (i := 0) h u0
  have h2 := heap_set (i := 1) h1 u1
  have h3 := heap_set (i := 2) h2 u2
  have h4 := heap_set (i := 3) h3 u3
  have h5 := heap_set (i := 4) h4 u4
  have h6 := heap_set (i := 5) h5 u5
  simpa using h6
theorem below_s6 {B b : Nat} {w w1 : World} {u0 u1 u2 u3 u4 u5 : Value} (h : Below B w w1) (hb : B ≤ b) :
    Below B w ((((((w1.setCell ⟨b, 0, none⟩ u0).setCell ⟨b, 1, none⟩ u1).setCell ⟨b, 2, none⟩ u2).setCell ⟨b, 3, none⟩ u3).setCell ⟨b, 4, none⟩ u4).setCell ⟨b, 5, none⟩ u5) :=
  (((((h.setCell hb _).setCell hb _).setCell hb _).setCell hb _).setCell hb _).setCell hb _
theorem keep_block {w w1 : World} {b : Nat} {o : Obj} (hb : Below w.heap.size w w1) (h : w.heap[b]? = some o) : w1.heap[b]? = some o := by
  rw [hb.block b (lt_of_block h)]; exact h
/-- The end of a function whose first result is a value in memory, the second one a slot; or the value alone. -/
theorem end6 {fn : Func} {R : Ending → World → Prop} {tmps : Array Value} {w : World} {b T : Nat} {v0 v1 v2 v3 v4 v5 u : Value} (hres : fn.results = #[ResultVar.cell 2 27, ResultVar.tmp 3])
    (h2 : tmps[2]?.getD undef = .pointer (some ⟨b, 0, none⟩)) (h3 : tmps[3]?.getD undef = u) (hb : w.heap[b]? = some (.cells #[v0, v1, v2, v3, v4, v5] T (0, 0)))
    (hR : R (.returned (.tuple #[.agg #[v0, v1, v2, v3, v4, v5], u])) w) : bodyPost Tryd.prog fn R .ret { tmps := tmps, defers := [] } w := by
  obtain ⟨g0, g1, g2, g3, g4, g5⟩ := facts6 hb
  refine bodyPost_ret (v := .tuple #[.agg #[v0, v1, v2, v3, v4, v5], u]) ?_ rfl hR
  simp [results, hres, go_sem, h2, h3, g0, g1, g2, g3, g4, g5]
theorem end61 {fn : Func} {R : Ending → World → Prop} {tmps : Array Value} {w : World} {b T : Nat} {v0 v1 v2 v3 v4 v5 : Value} (hres : fn.results = #[ResultVar.cell 2 27])
    (h2 : tmps[2]?.getD undef = .pointer (some ⟨b, 0, none⟩)) (hb : w.heap[b]? = some (.cells #[v0, v1, v2, v3, v4, v5] T (0, 0)))
    (hR : R (.returned (.agg #[v0, v1, v2, v3, v4, v5])) w) : bodyPost Tryd.prog fn R .ret { tmps := tmps, defers := [] } w := by
  obtain ⟨g0, g1, g2, g3, g4, g5⟩ := facts6 hb
  refine bodyPost_ret (v := .agg #[v0, v1, v2, v3, v4, v5]) ?_ rfl hR
  simp [results, hres, go_sem, h2, g0, g1, g2, g3, g4, g5]

/-- A value with nothing but what its kind uses. -/
def bareV (a : Vl) : Vl where
  kind := a.kind
  text := if a.kind = 1 then a.text else ⟨#[]⟩
  pairs := if a.kind = 2 then a.pairs else []
  items := if a.kind = 3 ∨ a.kind = 4 then a.items else []
  re := if a.kind = 5 then a.re else 0
  im := if a.kind = 5 then a.im else 0
/-- value.bare -/
theorem bare_is (v : Value) (a : Vl) (w : World) (hv : VRd w v a) :
    Calls Tryd.prog 36 #[v] w fun e w' => ∃ u, e = .returned u ∧ RowKit.Hid (VRd w' u (bareV a)) ∧ Below w.heap.size w w' := by
  obtain ⟨⟨PA, pc, IA, ic, rfl, hP, hI⟩, a1, a2, a3, a4, a5⟩ := hv
  obtain ⟨k, t, ps, is, re, im⟩ := a
  dsimp only at hP hI a1 a2 a3 a4 a5 ⊢
  have HP := Lib.hid hP; have HI := Lib.hid hI; have A1 := Lib.hid a1; have A2 := Lib.hid a2; have A3 := Lib.hid a3; have A4 := Lib.hid a4; have A5 := Lib.hid a5
  clear hP hI a1 a2 a3 a4 a5
  have hu := Tryd.underlying25
  rcases kinds k with rfl | rfl | rfl | rfl | rfl | h
  · go_enter Tryd.func36, Tryd.ntmps36
    go_wp2
    exact bodyPost_ret (v := vV 1 t none 0 0 none 0 0 0 0) (by simp [results, Tryd.results36, go_sem]) rfl ⟨_, rfl, Lib.hid ⟨⟨none, 0, none, 0, rfl, .inl rfl, .inl rfl⟩, Nat.zero_le _, Nat.zero_le _, A3.out, fun _ h => (by cases h), fun _ h => (by cases h)⟩, (by ((repeat (first | exact Below.refl _ _ | (refine Below.drew ?_) | (refine Go.below_drewN ?_ _) | (refine Below.alloc ?_ (by first | (simp; done) | omega | (simp; omega)) _) | (refine Below.setCell ?_ (by first | (simp; done) | omega | (simp; omega)) _) | (refine Below.trans ?_ (Below.mono (by assumption) (by first | (simp; done) | omega | (simp; omega)))))); done))⟩
  · go_enter Tryd.func36, Tryd.ntmps36
    go_wp2
    exact bodyPost_ret (v := vV 2 ⟨#[]⟩ PA ps.length pc none 0 0 0 0) (by simp [results, Tryd.results36, go_sem]) rfl ⟨_, rfl, Lib.hid ⟨⟨PA, pc, none, 0, rfl, HP.out.below (by ((repeat (first | exact Below.refl _ _ | (refine Below.drew ?_) | (refine Go.below_drewN ?_ _) | (refine Below.alloc ?_ (by first | (simp; done) | omega | (simp; omega)) _) | (refine Below.setCell ?_ (by first | (simp; done) | omega | (simp; omega)) _) | (refine Below.trans ?_ (Below.mono (by assumption) (by first | (simp; done) | omega | (simp; omega)))))); done)), .inl rfl⟩, A1.out, Nat.zero_le _, Nat.zero_le _, A4.out, fun _ h => (by cases h)⟩, (by ((repeat (first | exact Below.refl _ _ | (refine Below.drew ?_) | (refine Go.below_drewN ?_ _) | (refine Below.alloc ?_ (by first | (simp; done) | omega | (simp; omega)) _) | (refine Below.setCell ?_ (by first | (simp; done) | omega | (simp; omega)) _) | (refine Below.trans ?_ (Below.mono (by assumption) (by first | (simp; done) | omega | (simp; omega)))))); done))⟩
  · go_enter Tryd.func36, Tryd.ntmps36
    go_wp2
    exact bodyPost_ret (v := vV 3 ⟨#[]⟩ none 0 0 IA is.length ic 0 0) (by simp [results, Tryd.results36, go_sem]) rfl ⟨_, rfl, Lib.hid ⟨⟨none, 0, IA, ic, rfl, .inl rfl, HI.out.below (by ((repeat (first | exact Below.refl _ _ | (refine Below.drew ?_) | (refine Go.below_drewN ?_ _) | (refine Below.alloc ?_ (by first | (simp; done) | omega | (simp; omega)) _) | (refine Below.setCell ?_ (by first | (simp; done) | omega | (simp; omega)) _) | (refine Below.trans ?_ (Below.mono (by assumption) (by first | (simp; done) | omega | (simp; omega)))))); done))⟩, Nat.zero_le _, A2.out, Nat.zero_le _, fun _ h => (by cases h), A5.out⟩, (by ((repeat (first | exact Below.refl _ _ | (refine Below.drew ?_) | (refine Go.below_drewN ?_ _) | (refine Below.alloc ?_ (by first | (simp; done) | omega | (simp; omega)) _) | (refine Below.setCell ?_ (by first | (simp; done) | omega | (simp; omega)) _) | (refine Below.trans ?_ (Below.mono (by assumption) (by first | (simp; done) | omega | (simp; omega)))))); done))⟩
  · go_enter Tryd.func36, Tryd.ntmps36
    go_wp2
    exact bodyPost_ret (v := vV 4 ⟨#[]⟩ none 0 0 IA is.length ic 0 0) (by simp [results, Tryd.results36, go_sem]) rfl ⟨_, rfl, Lib.hid ⟨⟨none, 0, IA, ic, rfl, .inl rfl, HI.out.below (by ((repeat (first | exact Below.refl _ _ | (refine Below.drew ?_) | (refine Go.below_drewN ?_ _) | (refine Below.alloc ?_ (by first | (simp; done) | omega | (simp; omega)) _) | (refine Below.setCell ?_ (by first | (simp; done) | omega | (simp; omega)) _) | (refine Below.trans ?_ (Below.mono (by assumption) (by first | (simp; done) | omega | (simp; omega)))))); done))⟩, Nat.zero_le _, A2.out, Nat.zero_le _, fun _ h => (by cases h), A5.out⟩, (by ((repeat (first | exact Below.refl _ _ | (refine Below.drew ?_) | (refine Go.below_drewN ?_ _) | (refine Below.alloc ?_ (by first | (simp; done) | omega | (simp; omega)) _) | (refine Below.setCell ?_ (by first | (simp; done) | omega | (simp; omega)) _) | (refine Below.trans ?_ (Below.mono (by assumption) (by first | (simp; done) | omega | (simp; omega)))))); done))⟩
  · go_enter Tryd.func36, Tryd.ntmps36
    go_wp2
    exact bodyPost_ret (v := vV 5 ⟨#[]⟩ none 0 0 none 0 0 re im) (by simp [results, Tryd.results36, go_sem]) rfl ⟨_, rfl, Lib.hid ⟨⟨none, 0, none, 0, rfl, .inl rfl, .inl rfl⟩, Nat.zero_le _, Nat.zero_le _, Nat.zero_le _, fun _ h => (by cases h), fun _ h => (by cases h)⟩, (by ((repeat (first | exact Below.refl _ _ | (refine Below.drew ?_) | (refine Go.below_drewN ?_ _) | (refine Below.alloc ?_ (by first | (simp; done) | omega | (simp; omega)) _) | (refine Below.setCell ?_ (by first | (simp; done) | omega | (simp; omega)) _) | (refine Below.trans ?_ (Below.mono (by assumption) (by first | (simp; done) | omega | (simp; omega)))))); done))⟩
  · have HV := Lib.hid (show bareV ⟨k, t, ps, is, re, im⟩ = ⟨k, ⟨#[]⟩, [], [], 0, 0⟩ by simp at h; simp [bareV, h])
    obtain ⟨k1, k2, k3, k4, k5⟩ := h
    go_enter Tryd.func36, Tryd.ntmps36
    go_wp2
    exact bodyPost_ret (v := vV k ⟨#[]⟩ none 0 0 none 0 0 0 0) (by simp [results, Tryd.results36, go_sem]) rfl ⟨_, rfl, Lib.hid (by rw [HV.out]; exact ⟨⟨none, 0, none, 0, rfl, .inl rfl, .inl rfl⟩, Nat.zero_le _, Nat.zero_le _, Nat.zero_le _, fun _ h => (by cases h), fun _ h => (by cases h)⟩), (by ((repeat (first | exact Below.refl _ _ | (refine Below.drew ?_) | (refine Go.below_drewN ?_ _) | (refine Below.alloc ?_ (by first | (simp; done) | omega | (simp; omega)) _) | (refine Below.setCell ?_ (by first | (simp; done) | omega | (simp; omega)) _) | (refine Below.trans ?_ (Below.mono (by assumption) (by first | (simp; done) | omega | (simp; omega)))))); done))⟩
end Go.Proofs.YtdpgkihecpjijaaDoor.T
