import Derived.Deep.DeepCutAuto
import Derived.Laws.OwnMore
import Derived.OwnWalk
import Derived.Lib.AppendStr
import Derived.Lib.SliceRun
import Derived.Lib.SmallJoins
import Derived.IntWalk
import Derived.Lib.ItoaLen
import Derived.Test.YtdfijefgklhmdaaDoorProg
import Derived.Test.YtdfijefgklhmdaaDoorShelf
import Derived.Test.YtdfijefgklhmdaaDoorMem
import Derived.Test.YtdfijefgklhmdaaDoorR1
import Derived.Test.YtdfijefgklhmdaaDoorRa
import Derived.Test.YtdfijefgklhmdaaDoorRb
import Derived.Test.YtdfijefgklhmdaaDoorRc
import Derived.Test.YtdfijefgklhmdaaDoorRe
import Derived.Test.YtdfijefgklhmdaaDoorRf
import Derived.Test.YtdfijefgklhmdaaDoorRg
import Derived.Test.YtdfijefgklhmdaaDoorRh
import Derived.Test.YtdfijefgklhmdaaDoorRi
import Derived.Test.YtdfijefgklhmdaaDoorRk
import Derived.WalkKit
import Derived.Outline
import Derived.WalkLawsBesides
import Derived.Deep.QuietTactic
import Derived.BigQuiet
import Derived.Lib.Hide
import Derived.Handy
import Derived.Deep.RegionHeld3
import Derived.Deep.DrawnRows
import Derived.KernelRfl
import Derived.Great.Walk
import Derived.Test.YtdfijefgklhmdaaDoorOwn
namespace Go.Proofs.YtdfijefgklhmdaaDoor.T
open Go Go.RowKit Go.Sort Mem Own
set_option maxRecDepth 100000
set_option maxHeartbeats 1000000
set_option linter.unusedVariables false
set_option linter.unusedSimpArgs false

theorem rnext_end (A : Option Addr) (n c : Nat) (B T call : Int) (Q : Option Addr) (qn qc : Nat) (ep : Int) (fl : Bool) (w : World) (h : fl = true ∨ n = 0) : Calls Tryd.prog 23 #[.agg #[.slice A n c, .int .i64 B, .int .i64 T, .int .i64 call, .slice Q qn qc, .int .i64 ep, .bool fl]] w (NextOut 0 [] false w) := by
  cases fl with
  | true =>
    go_enter Tryd.func23, Tryd.ntmps23
    go_wp2
    go_ret3
    exact ⟨none, 0, rfl, Lib.hid (.inl rfl), (by ((repeat (first | exact Below.refl _ _ | (refine Below.drew ?_) | (refine Go.below_drewN ?_ _) | (refine Below.alloc ?_ (by first | (simp; done) | omega | (simp; omega)) _) | (refine Below.setCell ?_ (by first | (simp; done) | omega | (simp; omega)) _) | (refine Below.trans ?_ (Below.mono (by assumption) (by first | (simp; done) | omega | (simp; omega)))))); done))⟩
  | false =>
    obtain rfl : n = 0 := by rcases h with h | h; cases h; exact h
    go_enter Tryd.func23, Tryd.ntmps23
    go_wp2
    go_ret3
    exact ⟨none, 0, rfl, Lib.hid (.inl rfl), (by ((repeat (first | exact Below.refl _ _ | (refine Below.drew ?_) | (refine Go.below_drewN ?_ _) | (refine Below.alloc ?_ (by first | (simp; done) | omega | (simp; omega)) _) | (refine Below.setCell ?_ (by first | (simp; done) | omega | (simp; omega)) _) | (refine Below.trans ?_ (Below.mono (by assumption) (by first | (simp; done) | omega | (simp; omega)))))); done))⟩
theorem rnext_1 (A : Option Addr) (l : List Mv) (c : Nat) (B T : Int) (Q : Option Addr) (qn qc : Nat) (ep : Int) (m : Mv) (w : World) (ha : RdM w A l) (hm : l[0]? = some m) (hk : okM m) (hT1 : 0 ≤ T) (hT2 : T ≤ 2000000000000) (hln : l.length ≤ 1000) : Calls Tryd.prog 23 #[.agg #[.slice A l.length c, .int .i64 B, .int .i64 T, .int .i64 1, .slice Q qn qc, .int .i64 ep, .bool false]] w
    (NextOut m.t [SETSLOT, dec m.s, ⟨#[73, 77, 80, 79, 82, 84, 73, 78, 71]⟩, dec m.f, dec (T + 1)] true w) := by
  have hl0 : 0 < l.length := (List.getElem?_eq_some_iff.1 hm).1
  obtain ⟨b, off, rfl⟩ := ha.addr hl0
  obtain ⟨g0, g1, g2⟩ := ha.cell hl0
  have hm0 : l[0] = m := (List.getElem?_eq_some_iff.1 hm).2
  rw [hm0] at g0 g1 g2
  obtain ⟨s, f, t⟩ := m
  obtain ⟨m1, m2, ⟨m3, m4⟩, ⟨m5, m6⟩, -⟩ := hk
  dsimp only at g0 g1 g2 m1 m2 m3 m4 m5 m6 ⊢
  simp only [Nat.zero_mul, Nat.add_zero] at g0 g1 g2
  obtain ⟨N, hN⟩ : ∃ N, N = l.length := ⟨_, rfl⟩
  rw [← hN] at hl0 hln
  rw [← hN]
  clear hN hm hm0 ha
  have hN0 : ((N : Int) == 0) = false := by rw [beq_eq_false_iff_ne]; omega
  have hN1 : ¬ (N : Int) = 0 := by omega
  have HW := Lib.hid (show IntKind.i64.wrap (T + 1) = T + 1 by rw [IntKind.wrap_i64]; omega)
  have HBX := Lib.hid (heap_alloc_new w (.cells #[.slice (some ⟨b, off, none⟩) N c, .int .i64 B, .int .i64 T, .int .i64 1, .slice Q qn qc, .int .i64 ep, .bool false] 32))
  have HBW := Lib.hid ((Below.refl w.heap.size w).alloc (Nat.le_refl _) (.cells #[.slice (some ⟨b, off, none⟩) N c, .int .i64 B, .int .i64 T, .int .i64 1, .slice Q qn qc, .int .i64 ep, .bool false] 32))
  have g0 := cell_alloc g0 (.cells #[.slice (some ⟨b, off, none⟩) N c, .int .i64 B, .int .i64 T, .int .i64 1, .slice Q qn qc, .int .i64 ep, .bool false] 32)
  have g1 := cell_alloc g1 (.cells #[.slice (some ⟨b, off, none⟩) N c, .int .i64 B, .int .i64 T, .int .i64 1, .slice Q qn qc, .int .i64 ep, .bool false] 32)
  have g2 := cell_alloc g2 (.cells #[.slice (some ⟨b, off, none⟩) N c, .int .i64 B, .int .i64 T, .int .i64 1, .slice Q qn qc, .int .i64 ep, .bool false] 32)
  go_enter Tryd.func23, Tryd.ntmps23
  go_upto_region 3 with fail
  go_cut [1, 5] (fun s1 s5 wx => ∃ b5 : Nat, s1 = .pointer (some ⟨w.heap.size, 0, none⟩) ∧ s5 = .pointer (some ⟨b5, 0, none⟩) ∧ RowKit.Hid (wx.heap[w.heap.size]? = some (.cells #[.slice (some ⟨b, off, none⟩) N c, .int .i64 B, .int .i64 T, .int .i64 1, .slice Q qn qc, .int .i64 ep, .bool false] 32 (0, 0))) ∧ RowKit.Hid (wx.heap[b5]? = some (.cells #[.int .i64 s, .int .i64 f, .int .i64 t] 37 (0, 0))) ∧ RowKit.Hid (Below w.heap.size w wx))
  case first =>
    go_wp2
    go_meet
    exact ⟨_, rfl, rfl, Lib.hid (keep_block ((Below.refl _ _).alloc (Nat.le_refl _) _) HBX.out), Lib.hid (by have := heap_alloc_new (w.alloc (.cells #[.slice (some ⟨b, off, none⟩) N c, .int .i64 B, .int .i64 T, .int .i64 1, .slice Q qn qc, .int .i64 ep, .bool false] 32)) (.cells #[.int .i64 s, .int .i64 f, .int .i64 t] 37); rw [alloc_size] at this; exact this), Lib.hid (by ((repeat (first | exact Below.refl _ _ | (refine Below.drew ?_) | (refine Go.below_drewN ?_ _) | (refine Below.alloc ?_ (by first | (simp; done) | omega | (simp; omega)) _) | (refine Below.setCell ?_ (by first | (simp; done) | omega | (simp; omega)) _) | (refine Below.trans ?_ (Below.mono (by assumption) (by first | (simp; done) | omega | (simp; omega)))))); done))⟩
  case rest =>
    obtain ⟨b5, rfl, rfl, HY, HX, HB⟩ := hcut
    have hz := HB.out.size
    clear g0 g1 g2
    obtain ⟨x0, x1, x2⟩ := facts3 HX.out
    go_upto_region 7 with (first
      | ((fail_if_success (have := hb1)); go_at_call 30; refine Calls.mono (digits_is s _ (by omega) (by omega)) ?_; rintro e w1 ⟨rfl, hb1⟩; have hz1 := hb1.size; clear x0 x1 x2; obtain ⟨x0, x1, x2⟩ := facts3 (keep_block hb1 HX.out))
      | ((fail_if_success (have := hb2)); go_at_call 30; refine Calls.mono (digits_is f _ (by omega) (by omega)) ?_; rintro e w2 ⟨rfl, hb2⟩; have hz2 := hb2.size; clear x0 x1 x2; obtain ⟨x0, x1, x2⟩ := facts3 (keep_block hb2 (keep_block hb1 HX.out)))
      | (go_at_call 30; refine Calls.mono (digits_is t _ (by omega) (by omega)) ?_; rintro e w3 ⟨rfl, hb3⟩; have hz3 := hb3.size; clear x0 x1 x2))
    have hb13 : Below wc.heap.size wc w3 := hb1.trans ((hb2.mono hz1).trans (hb3.mono (Nat.le_trans hz1 hz2)))
    have HX3 := Lib.hid (keep_block hb13 HX.out)
    have HY3 := Lib.hid (keep_block hb13 HY.out)
    have HB3 := Lib.hid (HB.out.trans (hb13.mono hz))
    have hz4 := HB3.out.size
    clear hb1 hb2 hb3 hb13
    obtain ⟨x0, x1, x2⟩ := facts3 HX3.out
    obtain ⟨y0, y1, y2, y3, y4, y5, y6⟩ := facts7 HY3.out
    go_wp2_with fail
    go_region_held3 (fun w' => w'.cell? ⟨b5, 2, none⟩ = some (.int .i64 t) ∧ w'.cell? ⟨w.heap.size, 2, none⟩ = some (.int .i64 T) ∧ Below w3.heap.size w3 w')
      (first | (exact ⟨cell_alloc z1 _, cell_alloc z2 _, hS1.alloc hS1.size _⟩) | exact ⟨z1, z2, hS1⟩ | (refine ⟨by simpa [go_sem] using x2, by simpa [go_sem] using y2, (by ((repeat (first | exact Below.refl _ _ | (refine Below.drew ?_) | (refine Go.below_drewN ?_ _) | (refine Below.alloc ?_ (by first | (simp; done) | omega | (simp; omega)) _) | (refine Below.setCell ?_ (by first | (simp; done) | omega | (simp; omega)) _) | (refine Below.trans ?_ (Below.mono (by assumption) (by first | (simp; done) | omega | (simp; omega)))))); done))⟩))
      ((go_at_call 30; (try rw [HW.out]); refine Calls.mono (digits_is (T + 1) _ (by omega) (by omega)) ?_; rintro e w5 ⟨rfl, hb5⟩; have hS1 : RowKit.Below w3.heap.size w3 w5 := (by ((repeat (first | exact Below.refl _ _ | (refine Below.drew ?_) | (refine Go.below_drewN ?_ _) | (refine Below.alloc ?_ (by first | (simp; done) | omega | (simp; omega)) _) | (refine Below.setCell ?_ (by first | (simp; done) | omega | (simp; omega)) _) | (refine Below.trans ?_ (Below.mono (by assumption) (by first | (simp; done) | omega | (simp; omega)))))); done)); have z1 := cell_below hS1 x2; have z2 := cell_below hS1 y2))
    all_goals
      go_wp2
      go_ret3
      exact next_out (c := 5) (HB3.out.trans (hS1.mono hz4))
end Go.Proofs.YtdfijefgklhmdaaDoor.T
