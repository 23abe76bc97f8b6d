import Derived.Deep.DeepCutAuto
import Derived.Laws.OwnMore
import Derived.OwnWalk
import Derived.Lib.AppendStr
import Derived.Lib.SliceRun
import Derived.Lib.SmallJoins
import Derived.IntWalk
import Derived.Lib.ItoaLen
import Derived.Test.YtdfijefgklhmdaaDoorProg
import Derived.Test.YtdfijefgklhmdaaDoorShelf
import Derived.Test.YtdfijefgklhmdaaDoorMem
import Derived.Test.YtdfijefgklhmdaaDoorRz
import Derived.Test.YtdfijefgklhmdaaDoorRl
import Derived.WalkKit
import Derived.Outline
import Derived.WalkLawsBesides
import Derived.Deep.QuietTactic
import Derived.BigQuiet
import Derived.Lib.Hide
import Derived.Handy
import Derived.Deep.RegionHeld3
import Derived.Deep.DrawnRows
import Derived.KernelRfl
import Derived.Great.Walk
import Derived.Test.YtdfijefgklhmdaaDoorOwn
namespace Go.Proofs.YtdfijefgklhmdaaDoor.T
open Go Go.RowKit Go.Sort Mem Own
set_option maxRecDepth 100000
set_option maxHeartbeats 1000000
set_option linter.unusedVariables false
set_option linter.unusedSimpArgs false

/-- A driver of the document. -/
structure Rv where
  plan : List Mv
  B : Int
  T : Int
  call : Int
  queue : List ByteArray
  ep : Int
  failed : Bool
abbrev rvV (R : Rv) (A : Option Addr) (c : Nat) (Q : Option Addr) (qc : Nat) : Value := .agg #[.slice A R.plan.length c, .int .i64 R.B, .int .i64 R.T, .int .i64 R.call, .slice Q R.queue.length qc, .int .i64 R.ep, .bool R.failed]
def rN (R : Rv) (m : Mv) : Int := if R.call = 1 ∨ R.call = 6 then m.t else m.f
def rL (R : Rv) (m : Mv) : List ByteArray :=
  if R.call = 1 then [SETSLOT, dec m.s, ⟨#[73, 77, 80, 79, 82, 84, 73, 78, 71]⟩, dec m.f, dec (R.T + 1)]
  else if R.call = 2 then [SETSLOT, dec m.s, ⟨#[77, 73, 71, 82, 65, 84, 73, 78, 71]⟩, dec m.t, dec (R.T + 1)]
  else if R.call = 3 then [⟨#[75, 69, 89, 83]⟩, dec m.s, dec R.B]
  else if R.call = 4 then [⟨#[77, 73, 71, 82, 65, 84, 69]⟩, dec m.s, R.queue.headD ⟨#[]⟩, dec m.t]
  else if R.call = 5 then [SETSLOT, dec m.s, ⟨#[78, 79, 68, 69]⟩, dec m.t]
  else [SETSLOT, dec m.s, ⟨#[84, 65, 75, 69]⟩, dec R.ep]
theorem rnext_2 (A : Option Addr) (l : List Mv) (c : Nat) (B T : Int) (Q : Option Addr) (qn qc : Nat) (ep : Int) (m : Mv) (w : World) (ha : RdM w A l) (hm : l[0]? = some m) (hk : okM m) (hT1 : 0 ≤ T) (hT2 : T ≤ 2000000000000) (hln : l.length ≤ 1000) : Calls Tryd.prog 23 #[.agg #[.slice A l.length c, .int .i64 B, .int .i64 T, .int .i64 2, .slice Q qn qc, .int .i64 ep, .bool false]] w
    (NextOut m.f [SETSLOT, dec m.s, ⟨#[77, 73, 71, 82, 65, 84, 73, 78, 71]⟩, dec m.t, dec (T + 1)] true w) := by
  have hl0 : 0 < l.length := (List.getElem?_eq_some_iff.1 hm).1
  obtain ⟨b, off, rfl⟩ := ha.addr hl0
  obtain ⟨g0, g1, g2⟩ := ha.cell hl0
  have hm0 : l[0] = m := (List.getElem?_eq_some_iff.1 hm).2
  rw [hm0] at g0 g1 g2
  obtain ⟨s, f, t⟩ := m
  obtain ⟨m1, m2, ⟨m3, m4⟩, ⟨m5, m6⟩, -⟩ := hk
  dsimp only at g0 g1 g2 m1 m2 m3 m4 m5 m6 ⊢
  simp only [Nat.zero_mul, Nat.add_zero] at g0 g1 g2
  obtain ⟨N, hN⟩ : ∃ N, N = l.length := ⟨_, rfl⟩
  rw [← hN] at hl0 hln
  rw [← hN]
  clear hN hm hm0 ha
  have hN0 : ((N : Int) == 0) = false := by rw [beq_eq_false_iff_ne]; omega
  have hN1 : ¬ (N : Int) = 0 := by omega
  have HW := Lib.hid (show IntKind.i64.wrap (T + 1) = T + 1 by rw [IntKind.wrap_i64]; omega)
  have HBX := Lib.hid (heap_alloc_new w (.cells #[.slice (some ⟨b, off, none⟩) N c, .int .i64 B, .int .i64 T, .int .i64 2, .slice Q qn qc, .int .i64 ep, .bool false] 32))
  have HBW := Lib.hid ((Below.refl w.heap.size w).alloc (Nat.le_refl _) (.cells #[.slice (some ⟨b, off, none⟩) N c, .int .i64 B, .int .i64 T, .int .i64 2, .slice Q qn qc, .int .i64 ep, .bool false] 32))
  have g0 := cell_alloc g0 (.cells #[.slice (some ⟨b, off, none⟩) N c, .int .i64 B, .int .i64 T, .int .i64 2, .slice Q qn qc, .int .i64 ep, .bool false] 32)
  have g1 := cell_alloc g1 (.cells #[.slice (some ⟨b, off, none⟩) N c, .int .i64 B, .int .i64 T, .int .i64 2, .slice Q qn qc, .int .i64 ep, .bool false] 32)
  have g2 := cell_alloc g2 (.cells #[.slice (some ⟨b, off, none⟩) N c, .int .i64 B, .int .i64 T, .int .i64 2, .slice Q qn qc, .int .i64 ep, .bool false] 32)
  go_enter Tryd.func23, Tryd.ntmps23
  go_upto_region 3 with fail
  go_cut [1, 5] (fun s1 s5 wx => ∃ b5 : Nat, s1 = .pointer (some ⟨w.heap.size, 0, none⟩) ∧ s5 = .pointer (some ⟨b5, 0, none⟩) ∧ RowKit.Hid (wx.heap[w.heap.size]? = some (.cells #[.slice (some ⟨b, off, none⟩) N c, .int .i64 B, .int .i64 T, .int .i64 2, .slice Q qn qc, .int .i64 ep, .bool false] 32 (0, 0))) ∧ RowKit.Hid (wx.heap[b5]? = some (.cells #[.int .i64 s, .int .i64 f, .int .i64 t] 37 (0, 0))) ∧ RowKit.Hid (Below w.heap.size w wx))
  case first =>
    go_wp2
    go_meet
    exact ⟨_, rfl, rfl, Lib.hid (keep_block ((Below.refl _ _).alloc (Nat.le_refl _) _) HBX.out), Lib.hid (by have := heap_alloc_new (w.alloc (.cells #[.slice (some ⟨b, off, none⟩) N c, .int .i64 B, .int .i64 T, .int .i64 2, .slice Q qn qc, .int .i64 ep, .bool false] 32)) (.cells #[.int .i64 s, .int .i64 f, .int .i64 t] 37); rw [alloc_size] at this; exact this), Lib.hid (by ((repeat (first | exact Below.refl _ _ | (refine Below.drew ?_) | (refine Go.below_drewN ?_ _) | (refine Below.alloc ?_ (by first | (simp; done) | omega | (simp; omega)) _) | (refine Below.setCell ?_ (by first | (simp; done) | omega | (simp; omega)) _) | (refine Below.trans ?_ (Below.mono (by assumption) (by first | (simp; done) | omega | (simp; omega)))))); done))⟩
  case rest =>
    obtain ⟨b5, rfl, rfl, HY, HX, HB⟩ := hcut
    have hz := HB.out.size
    clear g0 g1 g2
    obtain ⟨x0, x1, x2⟩ := facts3 HX.out
    go_upto_region 7 with (first
      | ((fail_if_success (have := hb1)); go_at_call 30; refine Calls.mono (digits_is s _ (by omega) (by omega)) ?_; rintro e w1 ⟨rfl, hb1⟩; have hz1 := hb1.size; clear x0 x1 x2; obtain ⟨x0, x1, x2⟩ := facts3 (keep_block hb1 HX.out))
      | ((fail_if_success (have := hb2)); go_at_call 30; refine Calls.mono (digits_is f _ (by omega) (by omega)) ?_; rintro e w2 ⟨rfl, hb2⟩; have hz2 := hb2.size; clear x0 x1 x2; obtain ⟨x0, x1, x2⟩ := facts3 (keep_block hb2 (keep_block hb1 HX.out)))
      | (go_at_call 30; refine Calls.mono (digits_is t _ (by omega) (by omega)) ?_; rintro e w3 ⟨rfl, hb3⟩; have hz3 := hb3.size; clear x0 x1 x2))
    have hb13 : Below wc.heap.size wc w3 := hb1.trans ((hb2.mono hz1).trans (hb3.mono (Nat.le_trans hz1 hz2)))
    have HX3 := Lib.hid (keep_block hb13 HX.out)
    have HY3 := Lib.hid (keep_block hb13 HY.out)
    have HB3 := Lib.hid (HB.out.trans (hb13.mono hz))
    have hz4 := HB3.out.size
    clear hb1 hb2 hb3 hb13
    obtain ⟨x0, x1, x2⟩ := facts3 HX3.out
    obtain ⟨y0, y1, y2, y3, y4, y5, y6⟩ := facts7 HY3.out
    go_wp2_with fail
    go_region_held3 (fun w' => w'.cell? ⟨b5, 1, none⟩ = some (.int .i64 f) ∧ w'.cell? ⟨w.heap.size, 2, none⟩ = some (.int .i64 T) ∧ Below w3.heap.size w3 w')
      (first | (exact ⟨cell_alloc z1 _, cell_alloc z2 _, hS1.alloc hS1.size _⟩) | exact ⟨z1, z2, hS1⟩ | (refine ⟨by simpa [go_sem] using x1, by simpa [go_sem] using y2, (by ((repeat (first | exact Below.refl _ _ | (refine Below.drew ?_) | (refine Go.below_drewN ?_ _) | (refine Below.alloc ?_ (by first | (simp; done) | omega | (simp; omega)) _) | (refine Below.setCell ?_ (by first | (simp; done) | omega | (simp; omega)) _) | (refine Below.trans ?_ (Below.mono (by assumption) (by first | (simp; done) | omega | (simp; omega)))))); done))⟩))
      ((go_at_call 30; (try rw [HW.out]); refine Calls.mono (digits_is (T + 1) _ (by omega) (by omega)) ?_; rintro e w5 ⟨rfl, hb5⟩; have hS1 : RowKit.Below w3.heap.size w3 w5 := (by ((repeat (first | exact Below.refl _ _ | (refine Below.drew ?_) | (refine Go.below_drewN ?_ _) | (refine Below.alloc ?_ (by first | (simp; done) | omega | (simp; omega)) _) | (refine Below.setCell ?_ (by first | (simp; done) | omega | (simp; omega)) _) | (refine Below.trans ?_ (Below.mono (by assumption) (by first | (simp; done) | omega | (simp; omega)))))); done)); have z1 := cell_below hS1 x1; have z2 := cell_below hS1 y2))
    all_goals
      go_wp2
      go_ret3
      exact next_out (c := 5) (HB3.out.trans (hS1.mono hz4))
theorem rnext_3 (A : Option Addr) (l : List Mv) (c : Nat) (B T : Int) (Q : Option Addr) (qn qc : Nat) (ep : Int) (m : Mv) (w : World) (ha : RdM w A l) (hm : l[0]? = some m) (hk : okM m) (hT1 : 0 ≤ T) (hT2 : T ≤ 2000000000000) (hln : l.length ≤ 1000) (hB : 1 ≤ B ∧ B ≤ 100) : Calls Tryd.prog 23 #[.agg #[.slice A l.length c, .int .i64 B, .int .i64 T, .int .i64 3, .slice Q qn qc, .int .i64 ep, .bool false]] w
    (NextOut m.f [⟨#[75, 69, 89, 83]⟩, dec m.s, dec B] true w) := by
  have hl0 : 0 < l.length := (List.getElem?_eq_some_iff.1 hm).1
  obtain ⟨b, off, rfl⟩ := ha.addr hl0
  obtain ⟨g0, g1, g2⟩ := ha.cell hl0
  have hm0 : l[0] = m := (List.getElem?_eq_some_iff.1 hm).2
  rw [hm0] at g0 g1 g2
  obtain ⟨s, f, t⟩ := m
  obtain ⟨m1, m2, ⟨m3, m4⟩, ⟨m5, m6⟩, -⟩ := hk
  dsimp only at g0 g1 g2 m1 m2 m3 m4 m5 m6 ⊢
  simp only [Nat.zero_mul, Nat.add_zero] at g0 g1 g2
  obtain ⟨N, hN⟩ : ∃ N, N = l.length := ⟨_, rfl⟩
  rw [← hN] at hl0 hln
  rw [← hN]
  clear hN hm hm0 ha
  have hN0 : ((N : Int) == 0) = false := by rw [beq_eq_false_iff_ne]; omega
  have hN1 : ¬ (N : Int) = 0 := by omega
  have HW := Lib.hid (show IntKind.i64.wrap (T + 1) = T + 1 by rw [IntKind.wrap_i64]; omega)
  have HBX := Lib.hid (heap_alloc_new w (.cells #[.slice (some ⟨b, off, none⟩) N c, .int .i64 B, .int .i64 T, .int .i64 3, .slice Q qn qc, .int .i64 ep, .bool false] 32))
  have HBW := Lib.hid ((Below.refl w.heap.size w).alloc (Nat.le_refl _) (.cells #[.slice (some ⟨b, off, none⟩) N c, .int .i64 B, .int .i64 T, .int .i64 3, .slice Q qn qc, .int .i64 ep, .bool false] 32))
  have g0 := cell_alloc g0 (.cells #[.slice (some ⟨b, off, none⟩) N c, .int .i64 B, .int .i64 T, .int .i64 3, .slice Q qn qc, .int .i64 ep, .bool false] 32)
  have g1 := cell_alloc g1 (.cells #[.slice (some ⟨b, off, none⟩) N c, .int .i64 B, .int .i64 T, .int .i64 3, .slice Q qn qc, .int .i64 ep, .bool false] 32)
  have g2 := cell_alloc g2 (.cells #[.slice (some ⟨b, off, none⟩) N c, .int .i64 B, .int .i64 T, .int .i64 3, .slice Q qn qc, .int .i64 ep, .bool false] 32)
  go_enter Tryd.func23, Tryd.ntmps23
  go_upto_region 3 with fail
  go_cut [1, 5] (fun s1 s5 wx => ∃ b5 : Nat, s1 = .pointer (some ⟨w.heap.size, 0, none⟩) ∧ s5 = .pointer (some ⟨b5, 0, none⟩) ∧ RowKit.Hid (wx.heap[w.heap.size]? = some (.cells #[.slice (some ⟨b, off, none⟩) N c, .int .i64 B, .int .i64 T, .int .i64 3, .slice Q qn qc, .int .i64 ep, .bool false] 32 (0, 0))) ∧ RowKit.Hid (wx.heap[b5]? = some (.cells #[.int .i64 s, .int .i64 f, .int .i64 t] 37 (0, 0))) ∧ RowKit.Hid (Below w.heap.size w wx))
  case first =>
    go_wp2
    go_meet
    exact ⟨_, rfl, rfl, Lib.hid (keep_block ((Below.refl _ _).alloc (Nat.le_refl _) _) HBX.out), Lib.hid (by have := heap_alloc_new (w.alloc (.cells #[.slice (some ⟨b, off, none⟩) N c, .int .i64 B, .int .i64 T, .int .i64 3, .slice Q qn qc, .int .i64 ep, .bool false] 32)) (.cells #[.int .i64 s, .int .i64 f, .int .i64 t] 37); rw [alloc_size] at this; exact this), Lib.hid (by ((repeat (first | exact Below.refl _ _ | (refine Below.drew ?_) | (refine Go.below_drewN ?_ _) | (refine Below.alloc ?_ (by first | (simp; done) | omega | (simp; omega)) _) | (refine Below.setCell ?_ (by first | (simp; done) | omega | (simp; omega)) _) | (refine Below.trans ?_ (Below.mono (by assumption) (by first | (simp; done) | omega | (simp; omega)))))); done))⟩
  case rest =>
    obtain ⟨b5, rfl, rfl, HY, HX, HB⟩ := hcut
    have hz := HB.out.size
    clear g0 g1 g2
    obtain ⟨x0, x1, x2⟩ := facts3 HX.out
    go_upto_region 7 with (first
      | ((fail_if_success (have := hb1)); go_at_call 30; refine Calls.mono (digits_is s _ (by omega) (by omega)) ?_; rintro e w1 ⟨rfl, hb1⟩; have hz1 := hb1.size; clear x0 x1 x2; obtain ⟨x0, x1, x2⟩ := facts3 (keep_block hb1 HX.out))
      | ((fail_if_success (have := hb2)); go_at_call 30; refine Calls.mono (digits_is f _ (by omega) (by omega)) ?_; rintro e w2 ⟨rfl, hb2⟩; have hz2 := hb2.size; clear x0 x1 x2; obtain ⟨x0, x1, x2⟩ := facts3 (keep_block hb2 (keep_block hb1 HX.out)))
      | (go_at_call 30; refine Calls.mono (digits_is t _ (by omega) (by omega)) ?_; rintro e w3 ⟨rfl, hb3⟩; have hz3 := hb3.size; clear x0 x1 x2))
    have hb13 : Below wc.heap.size wc w3 := hb1.trans ((hb2.mono hz1).trans (hb3.mono (Nat.le_trans hz1 hz2)))
    have HX3 := Lib.hid (keep_block hb13 HX.out)
    have HY3 := Lib.hid (keep_block hb13 HY.out)
    have HB3 := Lib.hid (HB.out.trans (hb13.mono hz))
    have hz4 := HB3.out.size
    clear hb1 hb2 hb3 hb13
    obtain ⟨x0, x1, x2⟩ := facts3 HX3.out
    obtain ⟨y0, y1, y2, y3, y4, y5, y6⟩ := facts7 HY3.out
    go_wp2_with fail
    go_region_held3 (fun w' => w'.cell? ⟨b5, 1, none⟩ = some (.int .i64 f) ∧ w'.cell? ⟨w.heap.size, 1, none⟩ = some (.int .i64 B) ∧ Below w3.heap.size w3 w')
      (first | (exact ⟨cell_alloc z1 _, cell_alloc z2 _, hS1.alloc hS1.size _⟩) | exact ⟨z1, z2, hS1⟩ | (refine ⟨by simpa [go_sem] using x1, by simpa [go_sem] using y1, (by ((repeat (first | exact Below.refl _ _ | (refine Below.drew ?_) | (refine Go.below_drewN ?_ _) | (refine Below.alloc ?_ (by first | (simp; done) | omega | (simp; omega)) _) | (refine Below.setCell ?_ (by first | (simp; done) | omega | (simp; omega)) _) | (refine Below.trans ?_ (Below.mono (by assumption) (by first | (simp; done) | omega | (simp; omega)))))); done))⟩))
      ((go_at_call 30; (try rw [HW.out]); refine Calls.mono (digits_is (B) _ (by omega) (by omega)) ?_; rintro e w5 ⟨rfl, hb5⟩; have hS1 : RowKit.Below w3.heap.size w3 w5 := (by ((repeat (first | exact Below.refl _ _ | (refine Below.drew ?_) | (refine Go.below_drewN ?_ _) | (refine Below.alloc ?_ (by first | (simp; done) | omega | (simp; omega)) _) | (refine Below.setCell ?_ (by first | (simp; done) | omega | (simp; omega)) _) | (refine Below.trans ?_ (Below.mono (by assumption) (by first | (simp; done) | omega | (simp; omega)))))); done)); have z1 := cell_below hS1 x1; have z2 := cell_below hS1 y1))
    all_goals
      go_wp2
      go_ret3
      exact next_out (c := 3) (HB3.out.trans (hS1.mono hz4))
theorem rnext_4 (A : Option Addr) (l : List Mv) (c : Nat) (B T : Int) (qb qo qn qc : Nat) (ep : Int) (m : Mv) (w : World) (ha : RdM w A l) (hm : l[0]? = some m) (hk : okM m) (hT1 : 0 ≤ T) (hT2 : T ≤ 2000000000000) (hln : l.length ≤ 1000) (x : ByteArray) (hq : w.cell? ⟨qb, qo, none⟩ = some (.string x)) : Calls Tryd.prog 23 #[.agg #[.slice A l.length c, .int .i64 B, .int .i64 T, .int .i64 4, .slice (some ⟨qb, qo, none⟩) (qn + 1) qc, .int .i64 ep, .bool false]] w
    (NextOut m.f [⟨#[77, 73, 71, 82, 65, 84, 69]⟩, dec m.s, x, dec m.t] true w) := by
  have hl0 : 0 < l.length := (List.getElem?_eq_some_iff.1 hm).1
  obtain ⟨b, off, rfl⟩ := ha.addr hl0
  obtain ⟨g0, g1, g2⟩ := ha.cell hl0
  have hm0 : l[0] = m := (List.getElem?_eq_some_iff.1 hm).2
  rw [hm0] at g0 g1 g2
  obtain ⟨s, f, t⟩ := m
  obtain ⟨m1, m2, ⟨m3, m4⟩, ⟨m5, m6⟩, -⟩ := hk
  dsimp only at g0 g1 g2 m1 m2 m3 m4 m5 m6 ⊢
  simp only [Nat.zero_mul, Nat.add_zero] at g0 g1 g2
  obtain ⟨N, hN⟩ : ∃ N, N = l.length := ⟨_, rfl⟩
  rw [← hN] at hl0 hln
  rw [← hN]
  clear hN hm hm0 ha
  have HQ := Lib.hid hq
  clear hq
  have hN0 : ((N : Int) == 0) = false := by rw [beq_eq_false_iff_ne]; omega
  have hN1 : ¬ (N : Int) = 0 := by omega
  have HW := Lib.hid (show IntKind.i64.wrap (T + 1) = T + 1 by rw [IntKind.wrap_i64]; omega)
  have HBX := Lib.hid (heap_alloc_new w (.cells #[.slice (some ⟨b, off, none⟩) N c, .int .i64 B, .int .i64 T, .int .i64 4, .slice (some ⟨qb, qo, none⟩) (qn + 1) qc, .int .i64 ep, .bool false] 32))
  have HBW := Lib.hid ((Below.refl w.heap.size w).alloc (Nat.le_refl _) (.cells #[.slice (some ⟨b, off, none⟩) N c, .int .i64 B, .int .i64 T, .int .i64 4, .slice (some ⟨qb, qo, none⟩) (qn + 1) qc, .int .i64 ep, .bool false] 32))
  have g0 := cell_alloc g0 (.cells #[.slice (some ⟨b, off, none⟩) N c, .int .i64 B, .int .i64 T, .int .i64 4, .slice (some ⟨qb, qo, none⟩) (qn + 1) qc, .int .i64 ep, .bool false] 32)
  have g1 := cell_alloc g1 (.cells #[.slice (some ⟨b, off, none⟩) N c, .int .i64 B, .int .i64 T, .int .i64 4, .slice (some ⟨qb, qo, none⟩) (qn + 1) qc, .int .i64 ep, .bool false] 32)
  have g2 := cell_alloc g2 (.cells #[.slice (some ⟨b, off, none⟩) N c, .int .i64 B, .int .i64 T, .int .i64 4, .slice (some ⟨qb, qo, none⟩) (qn + 1) qc, .int .i64 ep, .bool false] 32)
  go_enter Tryd.func23, Tryd.ntmps23
  go_upto_region 3 with fail
  go_cut [1, 5] (fun s1 s5 wx => ∃ b5 : Nat, s1 = .pointer (some ⟨w.heap.size, 0, none⟩) ∧ s5 = .pointer (some ⟨b5, 0, none⟩) ∧ RowKit.Hid (wx.heap[w.heap.size]? = some (.cells #[.slice (some ⟨b, off, none⟩) N c, .int .i64 B, .int .i64 T, .int .i64 4, .slice (some ⟨qb, qo, none⟩) (qn + 1) qc, .int .i64 ep, .bool false] 32 (0, 0))) ∧ RowKit.Hid (wx.heap[b5]? = some (.cells #[.int .i64 s, .int .i64 f, .int .i64 t] 37 (0, 0))) ∧ RowKit.Hid (Below w.heap.size w wx))
  case first =>
    go_wp2
    go_meet
    exact ⟨_, rfl, rfl, Lib.hid (keep_block ((Below.refl _ _).alloc (Nat.le_refl _) _) HBX.out), Lib.hid (by have := heap_alloc_new (w.alloc (.cells #[.slice (some ⟨b, off, none⟩) N c, .int .i64 B, .int .i64 T, .int .i64 4, .slice (some ⟨qb, qo, none⟩) (qn + 1) qc, .int .i64 ep, .bool false] 32)) (.cells #[.int .i64 s, .int .i64 f, .int .i64 t] 37); rw [alloc_size] at this; exact this), Lib.hid (by ((repeat (first | exact Below.refl _ _ | (refine Below.drew ?_) | (refine Go.below_drewN ?_ _) | (refine Below.alloc ?_ (by first | (simp; done) | omega | (simp; omega)) _) | (refine Below.setCell ?_ (by first | (simp; done) | omega | (simp; omega)) _) | (refine Below.trans ?_ (Below.mono (by assumption) (by first | (simp; done) | omega | (simp; omega)))))); done))⟩
  case rest =>
    obtain ⟨b5, rfl, rfl, HY, HX, HB⟩ := hcut
    have hz := HB.out.size
    clear g0 g1 g2
    obtain ⟨x0, x1, x2⟩ := facts3 HX.out
    go_upto_region 7 with (first
      | ((fail_if_success (have := hb1)); go_at_call 30; refine Calls.mono (digits_is s _ (by omega) (by omega)) ?_; rintro e w1 ⟨rfl, hb1⟩; have hz1 := hb1.size; clear x0 x1 x2; obtain ⟨x0, x1, x2⟩ := facts3 (keep_block hb1 HX.out))
      | ((fail_if_success (have := hb2)); go_at_call 30; refine Calls.mono (digits_is f _ (by omega) (by omega)) ?_; rintro e w2 ⟨rfl, hb2⟩; have hz2 := hb2.size; clear x0 x1 x2; obtain ⟨x0, x1, x2⟩ := facts3 (keep_block hb2 (keep_block hb1 HX.out)))
      | (go_at_call 30; refine Calls.mono (digits_is t _ (by omega) (by omega)) ?_; rintro e w3 ⟨rfl, hb3⟩; have hz3 := hb3.size; clear x0 x1 x2))
    have hb13 : Below wc.heap.size wc w3 := hb1.trans ((hb2.mono hz1).trans (hb3.mono (Nat.le_trans hz1 hz2)))
    have HX3 := Lib.hid (keep_block hb13 HX.out)
    have HY3 := Lib.hid (keep_block hb13 HY.out)
    have HB3 := Lib.hid (HB.out.trans (hb13.mono hz))
    have hz4 := HB3.out.size
    clear hb1 hb2 hb3 hb13
    obtain ⟨x0, x1, x2⟩ := facts3 HX3.out
    obtain ⟨y0, y1, y2, y3, y4, y5, y6⟩ := facts7 HY3.out
    have q0 := cell_below HB3.out HQ.out
    have k1 := fun (o : Obj) => cell_alloc x1 o
    have k4 := fun (o : Obj) => cell_alloc y4 o
    have kq := fun (o : Obj) => cell_alloc q0 o
    go_wp2_with fail
    go_region
    go_wp2
    go_ret3
    first | exact next_out (L := [⟨#[77, 73, 71, 82, 65, 84, 69]⟩, dec s, x, dec t]) (c := 4) HB3.out | exact next_out (wx := w3.drewN _) (L := [⟨#[77, 73, 71, 82, 65, 84, 69]⟩, dec s, x, dec t]) (c := 4) (Go.below_drewN HB3.out _)
theorem rnext_5 (A : Option Addr) (l : List Mv) (c : Nat) (B T : Int) (Q : Option Addr) (qn qc : Nat) (ep : Int) (m : Mv) (w : World) (ha : RdM w A l) (hm : l[0]? = some m) (hk : okM m) (hT1 : 0 ≤ T) (hT2 : T ≤ 2000000000000) (hln : l.length ≤ 1000) : Calls Tryd.prog 23 #[.agg #[.slice A l.length c, .int .i64 B, .int .i64 T, .int .i64 5, .slice Q qn qc, .int .i64 ep, .bool false]] w
    (NextOut m.f [SETSLOT, dec m.s, ⟨#[78, 79, 68, 69]⟩, dec m.t] true w) := by
  have hl0 : 0 < l.length := (List.getElem?_eq_some_iff.1 hm).1
  obtain ⟨b, off, rfl⟩ := ha.addr hl0
  obtain ⟨g0, g1, g2⟩ := ha.cell hl0
  have hm0 : l[0] = m := (List.getElem?_eq_some_iff.1 hm).2
  rw [hm0] at g0 g1 g2
  obtain ⟨s, f, t⟩ := m
  obtain ⟨m1, m2, ⟨m3, m4⟩, ⟨m5, m6⟩, -⟩ := hk
  dsimp only at g0 g1 g2 m1 m2 m3 m4 m5 m6 ⊢
  simp only [Nat.zero_mul, Nat.add_zero] at g0 g1 g2
  obtain ⟨N, hN⟩ : ∃ N, N = l.length := ⟨_, rfl⟩
  rw [← hN] at hl0 hln
  rw [← hN]
  clear hN hm hm0 ha
  have hN0 : ((N : Int) == 0) = false := by rw [beq_eq_false_iff_ne]; omega
  have hN1 : ¬ (N : Int) = 0 := by omega
  have HW := Lib.hid (show IntKind.i64.wrap (T + 1) = T + 1 by rw [IntKind.wrap_i64]; omega)
  have HBX := Lib.hid (heap_alloc_new w (.cells #[.slice (some ⟨b, off, none⟩) N c, .int .i64 B, .int .i64 T, .int .i64 5, .slice Q qn qc, .int .i64 ep, .bool false] 32))
  have HBW := Lib.hid ((Below.refl w.heap.size w).alloc (Nat.le_refl _) (.cells #[.slice (some ⟨b, off, none⟩) N c, .int .i64 B, .int .i64 T, .int .i64 5, .slice Q qn qc, .int .i64 ep, .bool false] 32))
  have g0 := cell_alloc g0 (.cells #[.slice (some ⟨b, off, none⟩) N c, .int .i64 B, .int .i64 T, .int .i64 5, .slice Q qn qc, .int .i64 ep, .bool false] 32)
  have g1 := cell_alloc g1 (.cells #[.slice (some ⟨b, off, none⟩) N c, .int .i64 B, .int .i64 T, .int .i64 5, .slice Q qn qc, .int .i64 ep, .bool false] 32)
  have g2 := cell_alloc g2 (.cells #[.slice (some ⟨b, off, none⟩) N c, .int .i64 B, .int .i64 T, .int .i64 5, .slice Q qn qc, .int .i64 ep, .bool false] 32)
  go_enter Tryd.func23, Tryd.ntmps23
  go_upto_region 3 with fail
  go_cut [1, 5] (fun s1 s5 wx => ∃ b5 : Nat, s1 = .pointer (some ⟨w.heap.size, 0, none⟩) ∧ s5 = .pointer (some ⟨b5, 0, none⟩) ∧ RowKit.Hid (wx.heap[w.heap.size]? = some (.cells #[.slice (some ⟨b, off, none⟩) N c, .int .i64 B, .int .i64 T, .int .i64 5, .slice Q qn qc, .int .i64 ep, .bool false] 32 (0, 0))) ∧ RowKit.Hid (wx.heap[b5]? = some (.cells #[.int .i64 s, .int .i64 f, .int .i64 t] 37 (0, 0))) ∧ RowKit.Hid (Below w.heap.size w wx))
  case first =>
    go_wp2
    go_meet
    exact ⟨_, rfl, rfl, Lib.hid (keep_block ((Below.refl _ _).alloc (Nat.le_refl _) _) HBX.out), Lib.hid (by have := heap_alloc_new (w.alloc (.cells #[.slice (some ⟨b, off, none⟩) N c, .int .i64 B, .int .i64 T, .int .i64 5, .slice Q qn qc, .int .i64 ep, .bool false] 32)) (.cells #[.int .i64 s, .int .i64 f, .int .i64 t] 37); rw [alloc_size] at this; exact this), Lib.hid (by ((repeat (first | exact Below.refl _ _ | (refine Below.drew ?_) | (refine Go.below_drewN ?_ _) | (refine Below.alloc ?_ (by first | (simp; done) | omega | (simp; omega)) _) | (refine Below.setCell ?_ (by first | (simp; done) | omega | (simp; omega)) _) | (refine Below.trans ?_ (Below.mono (by assumption) (by first | (simp; done) | omega | (simp; omega)))))); done))⟩
  case rest =>
    obtain ⟨b5, rfl, rfl, HY, HX, HB⟩ := hcut
    have hz := HB.out.size
    clear g0 g1 g2
    obtain ⟨x0, x1, x2⟩ := facts3 HX.out
    go_upto_region 7 with (first
      | ((fail_if_success (have := hb1)); go_at_call 30; refine Calls.mono (digits_is s _ (by omega) (by omega)) ?_; rintro e w1 ⟨rfl, hb1⟩; have hz1 := hb1.size; clear x0 x1 x2; obtain ⟨x0, x1, x2⟩ := facts3 (keep_block hb1 HX.out))
      | ((fail_if_success (have := hb2)); go_at_call 30; refine Calls.mono (digits_is f _ (by omega) (by omega)) ?_; rintro e w2 ⟨rfl, hb2⟩; have hz2 := hb2.size; clear x0 x1 x2; obtain ⟨x0, x1, x2⟩ := facts3 (keep_block hb2 (keep_block hb1 HX.out)))
      | (go_at_call 30; refine Calls.mono (digits_is t _ (by omega) (by omega)) ?_; rintro e w3 ⟨rfl, hb3⟩; have hz3 := hb3.size; clear x0 x1 x2))
    have hb13 : Below wc.heap.size wc w3 := hb1.trans ((hb2.mono hz1).trans (hb3.mono (Nat.le_trans hz1 hz2)))
    have HX3 := Lib.hid (keep_block hb13 HX.out)
    have HY3 := Lib.hid (keep_block hb13 HY.out)
    have HB3 := Lib.hid (HB.out.trans (hb13.mono hz))
    have hz4 := HB3.out.size
    clear hb1 hb2 hb3 hb13
    obtain ⟨x0, x1, x2⟩ := facts3 HX3.out
    obtain ⟨y0, y1, y2, y3, y4, y5, y6⟩ := facts7 HY3.out
    go_wp2
    go_ret3
    exact next_out (n := f) (L := [SETSLOT, dec s, ⟨#[78, 79, 68, 69]⟩, dec t]) (c := 4) HB3.out
theorem rnext_6 (A : Option Addr) (l : List Mv) (c : Nat) (B T : Int) (Q : Option Addr) (qn qc : Nat) (ep : Int) (m : Mv) (w : World) (ha : RdM w A l) (hm : l[0]? = some m) (hk : okM m) (hT1 : 0 ≤ T) (hT2 : T ≤ 2000000000000) (hln : l.length ≤ 1000) (hE : -9223372036854775808 ≤ ep ∧ ep ≤ 9223372036854775807) : Calls Tryd.prog 23 #[.agg #[.slice A l.length c, .int .i64 B, .int .i64 T, .int .i64 6, .slice Q qn qc, .int .i64 ep, .bool false]] w
    (NextOut m.t [SETSLOT, dec m.s, ⟨#[84, 65, 75, 69]⟩, dec ep] true w) := by
  have hl0 : 0 < l.length := (List.getElem?_eq_some_iff.1 hm).1
  obtain ⟨b, off, rfl⟩ := ha.addr hl0
  obtain ⟨g0, g1, g2⟩ := ha.cell hl0
  have hm0 : l[0] = m := (List.getElem?_eq_some_iff.1 hm).2
  rw [hm0] at g0 g1 g2
  obtain ⟨s, f, t⟩ := m
  obtain ⟨m1, m2, ⟨m3, m4⟩, ⟨m5, m6⟩, -⟩ := hk
  dsimp only at g0 g1 g2 m1 m2 m3 m4 m5 m6 ⊢
  simp only [Nat.zero_mul, Nat.add_zero] at g0 g1 g2
  obtain ⟨N, hN⟩ : ∃ N, N = l.length := ⟨_, rfl⟩
  rw [← hN] at hl0 hln
  rw [← hN]
  clear hN hm hm0 ha
  have hN0 : ((N : Int) == 0) = false := by rw [beq_eq_false_iff_ne]; omega
  have hN1 : ¬ (N : Int) = 0 := by omega
  have HW := Lib.hid (show IntKind.i64.wrap (T + 1) = T + 1 by rw [IntKind.wrap_i64]; omega)
  have HBX := Lib.hid (heap_alloc_new w (.cells #[.slice (some ⟨b, off, none⟩) N c, .int .i64 B, .int .i64 T, .int .i64 6, .slice Q qn qc, .int .i64 ep, .bool false] 32))
  have HBW := Lib.hid ((Below.refl w.heap.size w).alloc (Nat.le_refl _) (.cells #[.slice (some ⟨b, off, none⟩) N c, .int .i64 B, .int .i64 T, .int .i64 6, .slice Q qn qc, .int .i64 ep, .bool false] 32))
  have g0 := cell_alloc g0 (.cells #[.slice (some ⟨b, off, none⟩) N c, .int .i64 B, .int .i64 T, .int .i64 6, .slice Q qn qc, .int .i64 ep, .bool false] 32)
  have g1 := cell_alloc g1 (.cells #[.slice (some ⟨b, off, none⟩) N c, .int .i64 B, .int .i64 T, .int .i64 6, .slice Q qn qc, .int .i64 ep, .bool false] 32)
  have g2 := cell_alloc g2 (.cells #[.slice (some ⟨b, off, none⟩) N c, .int .i64 B, .int .i64 T, .int .i64 6, .slice Q qn qc, .int .i64 ep, .bool false] 32)
  go_enter Tryd.func23, Tryd.ntmps23
  go_upto_region 3 with fail
  go_cut [1, 5] (fun s1 s5 wx => ∃ b5 : Nat, s1 = .pointer (some ⟨w.heap.size, 0, none⟩) ∧ s5 = .pointer (some ⟨b5, 0, none⟩) ∧ RowKit.Hid (wx.heap[w.heap.size]? = some (.cells #[.slice (some ⟨b, off, none⟩) N c, .int .i64 B, .int .i64 T, .int .i64 6, .slice Q qn qc, .int .i64 ep, .bool false] 32 (0, 0))) ∧ RowKit.Hid (wx.heap[b5]? = some (.cells #[.int .i64 s, .int .i64 f, .int .i64 t] 37 (0, 0))) ∧ RowKit.Hid (Below w.heap.size w wx))
  case first =>
    go_wp2
    go_meet
    exact ⟨_, rfl, rfl, Lib.hid (keep_block ((Below.refl _ _).alloc (Nat.le_refl _) _) HBX.out), Lib.hid (by have := heap_alloc_new (w.alloc (.cells #[.slice (some ⟨b, off, none⟩) N c, .int .i64 B, .int .i64 T, .int .i64 6, .slice Q qn qc, .int .i64 ep, .bool false] 32)) (.cells #[.int .i64 s, .int .i64 f, .int .i64 t] 37); rw [alloc_size] at this; exact this), Lib.hid (by ((repeat (first | exact Below.refl _ _ | (refine Below.drew ?_) | (refine Go.below_drewN ?_ _) | (refine Below.alloc ?_ (by first | (simp; done) | omega | (simp; omega)) _) | (refine Below.setCell ?_ (by first | (simp; done) | omega | (simp; omega)) _) | (refine Below.trans ?_ (Below.mono (by assumption) (by first | (simp; done) | omega | (simp; omega)))))); done))⟩
  case rest =>
    obtain ⟨b5, rfl, rfl, HY, HX, HB⟩ := hcut
    have hz := HB.out.size
    clear g0 g1 g2
    obtain ⟨x0, x1, x2⟩ := facts3 HX.out
    go_upto_region 7 with (first
      | ((fail_if_success (have := hb1)); go_at_call 30; refine Calls.mono (digits_is s _ (by omega) (by omega)) ?_; rintro e w1 ⟨rfl, hb1⟩; have hz1 := hb1.size; clear x0 x1 x2; obtain ⟨x0, x1, x2⟩ := facts3 (keep_block hb1 HX.out))
      | ((fail_if_success (have := hb2)); go_at_call 30; refine Calls.mono (digits_is f _ (by omega) (by omega)) ?_; rintro e w2 ⟨rfl, hb2⟩; have hz2 := hb2.size; clear x0 x1 x2; obtain ⟨x0, x1, x2⟩ := facts3 (keep_block hb2 (keep_block hb1 HX.out)))
      | (go_at_call 30; refine Calls.mono (digits_is t _ (by omega) (by omega)) ?_; rintro e w3 ⟨rfl, hb3⟩; have hz3 := hb3.size; clear x0 x1 x2))
    have hb13 : Below wc.heap.size wc w3 := hb1.trans ((hb2.mono hz1).trans (hb3.mono (Nat.le_trans hz1 hz2)))
    have HX3 := Lib.hid (keep_block hb13 HX.out)
    have HY3 := Lib.hid (keep_block hb13 HY.out)
    have HB3 := Lib.hid (HB.out.trans (hb13.mono hz))
    have hz4 := HB3.out.size
    clear hb1 hb2 hb3 hb13
    obtain ⟨x0, x1, x2⟩ := facts3 HX3.out
    obtain ⟨y0, y1, y2, y3, y4, y5, y6⟩ := facts7 HY3.out
    go_wp2_with fail
    go_region_held3 (fun w' => w'.cell? ⟨b5, 2, none⟩ = some (.int .i64 t) ∧ w'.cell? ⟨w.heap.size, 5, none⟩ = some (.int .i64 ep) ∧ Below w3.heap.size w3 w')
      (first | (exact ⟨cell_alloc z1 _, cell_alloc z2 _, hS1.alloc hS1.size _⟩) | exact ⟨z1, z2, hS1⟩ | (refine ⟨by simpa [go_sem] using x2, by simpa [go_sem] using y5, (by ((repeat (first | exact Below.refl _ _ | (refine Below.drew ?_) | (refine Go.below_drewN ?_ _) | (refine Below.alloc ?_ (by first | (simp; done) | omega | (simp; omega)) _) | (refine Below.setCell ?_ (by first | (simp; done) | omega | (simp; omega)) _) | (refine Below.trans ?_ (Below.mono (by assumption) (by first | (simp; done) | omega | (simp; omega)))))); done))⟩))
      ((go_at_call 30; (try rw [HW.out]); refine Calls.mono (digits_is (ep) _ (by omega) (by omega)) ?_; rintro e w5 ⟨rfl, hb5⟩; have hS1 : RowKit.Below w3.heap.size w3 w5 := (by ((repeat (first | exact Below.refl _ _ | (refine Below.drew ?_) | (refine Go.below_drewN ?_ _) | (refine Below.alloc ?_ (by first | (simp; done) | omega | (simp; omega)) _) | (refine Below.setCell ?_ (by first | (simp; done) | omega | (simp; omega)) _) | (refine Below.trans ?_ (Below.mono (by assumption) (by first | (simp; done) | omega | (simp; omega)))))); done)); have z1 := cell_below hS1 x2; have z2 := cell_below hS1 y5))
    all_goals
      go_wp2
      go_ret3
      exact next_out (c := 4) (HB3.out.trans (hS1.mono hz4))
end Go.Proofs.YtdfijefgklhmdaaDoor.T
