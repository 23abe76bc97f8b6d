import Derived.Deep.DeepCutAuto
import Derived.Laws.OwnMore
import Derived.OwnWalk
import Derived.Lib.AppendStr
import Derived.Laws.IdiomStrings
import Derived.Lib.ConvBytes
import Derived.Lib.SmallJoins
import Derived.IntWalk
import Derived.Deep.AppendLies
import Derived.Deep.RegionLaw
import Derived.Test.YtdpgkihecpjijaaDoorProg
import Derived.Test.YtdpgkihecpjijaaDoorMem
import Derived.Test.YtdpgkihecpjijaaDoorVt
import Derived.Test.YtdpgkihecpjijaaDoorVu
import Derived.Test.YtdpgkihecpjijaaDoorVw
import Derived.Test.YtdpgkihecpjijaaDoorVx
import Derived.Test.YtdpgkihecpjijaaDoorWf
import Derived.Test.YtdpgkihecpjijaaDoorWw
import Derived.Test.YtdpgkihecpjijaaDoorXj
import Derived.WalkKit
import Derived.Outline
import Derived.WalkLawsBesides
import Derived.Deep.QuietTactic
import Derived.BigQuiet
import Derived.Lib.Hide
import Derived.Handy
import Derived.Deep.RegionHeld3
import Derived.Deep.DrawnRows
import Derived.KernelRfl
import Derived.Great.Walk
import Derived.Test.YtdpgkihecpjijaaDoorOwn
namespace Go.Proofs.YtdpgkihecpjijaaDoor.T
open Go Go.RowKit Mem Own
set_option maxRecDepth 100000
set_option maxHeartbeats 1000000
set_option linter.unusedVariables false
set_option linter.unusedSimpArgs false

theorem own_mono {w : World} {base base' : Nat} {T : TypeId} {sz : Nat} {v : Value} {n : Nat} {xs : List Value} (h : w.ownsRow base T sz v n xs) (hb : base' ≤ base) : w.ownsRow base' T sz v n xs :=
  ⟨h.1, h.2.imp id fun ⟨g, cap, cur, h1, h2, h3⟩ => ⟨g, cap, cur, h1, Nat.le_trans hb h2, h3⟩⟩
theorem own_set {w : World} {T : TypeId} {sz B n b i : Nat} {v : Value} {xs : List Value} (h : w.ownsRow B T sz v n xs) (hb : b < B) (u : Value) : (w.setCell ⟨b, i, none⟩ u).ownsRow B T sz v n xs :=
  h.kept (only_set w b i u) (by
    cases hv : v.ownBlock with
    | none => exact .inl rfl
    | some k => right; intro e; injection e with e; have := (h.lt k hv).1; omega)
theorem own_s6 {w : World} {T : TypeId} {sz B n b : Nat} {v : Value} {xs : List Value} (h : w.ownsRow B T sz v n xs) (hb : b < B) (u0 u1 u2 u3 u4 u5 : Value) :
    ((((((w.setCell ⟨b, 0, none⟩ u0).setCell ⟨b, 1, none⟩ u1).setCell ⟨b, 2, none⟩ u2).setCell ⟨b, 3, none⟩ u3).setCell ⟨b, 4, none⟩ u4).setCell ⟨b, 5, none⟩ u5).ownsRow B T sz v n xs :=
  own_set (own_set (own_set (own_set (own_set (own_set h hb _) hb _) hb _) hb _) hb _) hb _
/-- What Copy leaves: rows of its own. -/
def CopyOut (a : Vl) (w : World) (e : Ending) (w' : World) : Prop := ∃ (C : Option Addr) (ck : Nat) (D : Option Addr) (dk : Nat), e = .returned (vV a.kind a.text C a.pairs.length ck D a.items.length dk a.re a.im) ∧
  RowKit.Hid (w'.ownsRow w.heap.size 44 2 (.slice C a.pairs.length ck) a.pairs.length (psv a.pairs)) ∧ RowKit.Hid (w'.ownsRow w.heap.size 9 1 (.slice D a.items.length dk) a.items.length (vs a.items)) ∧ Below w.heap.size w w'
theorem copy_is (v : Value) (a : Vl) (w : World) (hv : VRd w v a) (hp : a.pairs.length * 32 ≤ 140737488355328) (hi : a.items.length * 16 ≤ 140737488355328) : Calls Tryd.prog 24 #[v] w (CopyOut a w) := by
  obtain ⟨⟨PA, pc, IA, ic, rfl, hP, hI⟩, -⟩ := hv
  have HP := Lib.hid hP; have HI := Lib.hid hI
  clear hP hI
  obtain ⟨k, t, ps, is, re, im⟩ := a
  dsimp only at HP HI hp hi ⊢
  have hu := Tryd.underlying25
  have HY0 := Lib.hid (keep_block ((Below.refl _ _).alloc (Nat.le_refl _) (.cells #[.int .i64 0, .string ⟨#[]⟩, .slice none 0 0, .slice none 0 0, .int .i64 0, .int .i64 0] 27)) (heap_alloc_new w (vO k t PA ps.length pc IA is.length ic re im)))
  have HZ0 := Lib.hid (heap_alloc_new (w.alloc (vO k t PA ps.length pc IA is.length ic re im)) (.cells #[.int .i64 0, .string ⟨#[]⟩, .slice none 0 0, .slice none 0 0, .int .i64 0, .int .i64 0] 27))
  rw [alloc_size] at HZ0
  go_enter Tryd.func24, Tryd.ntmps24
  go_upto_region 1 with fail
  go_cut [1, 2] (fun s1 s2 wx => ∃ (C : Option Addr) (ck : Nat) (D : Option Addr) (dk : Nat), s1 = .pointer (some ⟨w.heap.size, 0, none⟩) ∧ s2 = .pointer (some ⟨w.heap.size + 1, 0, none⟩) ∧ RowKit.Hid (wx.heap[w.heap.size]? = some (.cells #[.int .i64 k, .string t, .slice C ps.length ck, .slice D is.length dk, .int .i64 re, .int .i64 im] 27 (0, 0))) ∧ RowKit.Hid (wx.heap[w.heap.size + 1]? = some (.cells #[.int .i64 0, .string ⟨#[]⟩, .slice none 0 0, .slice none 0 0, .int .i64 0, .int .i64 0] 27 (0, 0))) ∧
      RowKit.Hid (wx.ownsRow (w.heap.size + 2) 44 2 (.slice C ps.length ck) ps.length (psv ps)) ∧ RowKit.Hid (wx.ownsRow (w.heap.size + 2) 9 1 (.slice D is.length dk) is.length (vs is)) ∧ RowKit.Hid (Below w.heap.size w wx))
  case first =>
   go_region_with (first
     | (go_at_call 48; refine Calls.mono (cloneP_is _ ps _ _ (HP.out.below ?_) hp) ?_; (focus ((repeat (first | exact Below.refl _ _ | (refine Below.drew ?_) | (refine Go.below_drewN ?_ _) | (refine Below.alloc ?_ (by first | (simp; done) | omega | (simp; omega)) _) | (refine Below.setCell ?_ (by first | (simp; done) | omega | (simp; omega)) _) | (refine Below.trans ?_ (Below.mono (by assumption) (by first | (simp; done) | omega | (simp; omega)))))); done)); rintro e w1 ⟨C, ck, rfl, HO1', hb1⟩; have HO1 := Lib.hid (own_mono HO1'.out (base' := w.heap.size + 2) (Nat.le_of_eq (by rw [show ∀ (x : World), x.drew.heap = x.heap from fun _ => rfl, alloc_size, alloc_size]))); clear HO1'; have hz1 := hb1.size; (try simp at hz1); have HY1 := Lib.hid (keep_block hb1 HY0.out); have HZ1 := Lib.hid (keep_block hb1 HZ0.out); obtain ⟨d0, d1, d2, d3, d4, d5⟩ := facts6 HY1.out; obtain ⟨q0, q1, q2, q3, q4, q5⟩ := free6 HY1.out)
     | (go_at_call 49; refine Calls.mono (clone_is _ is _ _ (HI.out.below ?_) hi) ?_; (focus ((repeat (first | exact Below.refl _ _ | (refine Below.drew ?_) | (refine Go.below_drewN ?_ _) | (refine Below.alloc ?_ (by first | (simp; done) | omega | (simp; omega)) _) | (refine Below.setCell ?_ (by first | (simp; done) | omega | (simp; omega)) _) | (refine Below.trans ?_ (Below.mono (by assumption) (by first | (simp; done) | omega | (simp; omega)))))); done)); rintro e w2 ⟨D, dk, rfl, HO2', hb2⟩; have HO2 := Lib.hid (own_mono HO2'.out (base' := w.heap.size + 2) (by first | omega | (simp; omega))); clear HO2'; have HO1b := Lib.hid (own_bel HO1.out hb2); have hz2 := hb2.size; (try simp at hz2); have HY2 := Lib.hid (keep_block hb2 HY1.out); have HZ2 := Lib.hid (keep_block hb2 HZ1.out); clear d0 d1 d2 d3 d4 d5 q0 q1 q2 q3 q4 q5; obtain ⟨d0, d1, d2, d3, d4, d5⟩ := facts6 HY2.out; obtain ⟨q0, q1, q2, q3, q4, q5⟩ := free6 HY2.out))
   all_goals
    have hbw : Below w.heap.size w w2 := (by ((repeat (first | exact Below.refl _ _ | (refine Below.drew ?_) | (refine Go.below_drewN ?_ _) | (refine Below.alloc ?_ (by first | (simp; done) | omega | (simp; omega)) _) | (refine Below.setCell ?_ (by first | (simp; done) | omega | (simp; omega)) _) | (refine Below.trans ?_ (Below.mono (by assumption) (by first | (simp; done) | omega | (simp; omega)))))); done))
    go_wp2
    go_meet
    refine ⟨C, ck, D, dk, rfl, rfl, Lib.hid ?_, Lib.hid (blk_other (show w.heap.size + 1 ≠ w.heap.size by omega) (blk_other (show w.heap.size + 1 ≠ w.heap.size by omega) HZ2.out)), Lib.hid (own_set (own_set HO1b.out (by omega) _) (by omega) _), Lib.hid (own_set (own_set HO2.out (by omega) _) (by omega) _), Lib.hid ((hbw.setCell (by first | omega | (dsimp only; omega)) _).setCell (by first | omega | (dsimp only; omega)) _)⟩
    have h2 := heap_set (i := 3) (heap_set (i := 2) HY2.out (.slice C ps.length ck)) (.slice D is.length dk)
    simpa using h2
  case rest =>
    obtain ⟨C, ck, D, dk, rfl, rfl, HY, HZ, HO1, HO2, HB⟩ := hcut
    obtain ⟨d0, d1, d2, d3, d4, d5⟩ := facts6 HY.out
    obtain ⟨e0, e1, e2, e3, e4, e5⟩ := facts6 HZ.out
    obtain ⟨f0, f1, f2, f3, f4, f5⟩ := free6 HZ.out
    go_wp2
    refine end61 Tryd.results24 ?_ (set6 _ _ _ _ _ _ HZ.out) ?_
    · rfl
    · exact ⟨C, ck, D, dk, rfl, Lib.hid (own_mono (own_s6 HO1.out (by omega) _ _ _ _ _ _) (by omega)), Lib.hid (own_mono (own_s6 HO2.out (by omega) _ _ _ _ _ _) (by omega)), below_s6 HB.out (by omega)⟩
end Go.Proofs.YtdpgkihecpjijaaDoor.T
