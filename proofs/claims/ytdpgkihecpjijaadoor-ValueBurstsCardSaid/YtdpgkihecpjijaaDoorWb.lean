import Derived.Deep.DeepCutAuto
import Derived.Laws.OwnMore
import Derived.OwnWalk
import Derived.Lib.AppendStr
import Derived.Laws.IdiomStrings
import Derived.Lib.ConvBytes
import Derived.Lib.SmallJoins
import Derived.IntWalk
import Derived.Deep.AppendLies
import Derived.Deep.RegionLaw
import Derived.Test.YtdpgkihecpjijaaDoorProg
import Derived.Test.YtdpgkihecpjijaaDoorMem
import Derived.Test.YtdpgkihecpjijaaDoorVw
import Derived.Test.YtdpgkihecpjijaaDoorVx
import Derived.Test.YtdpgkihecpjijaaDoorWa
import Derived.WalkKit
import Derived.Outline
import Derived.WalkLawsBesides
import Derived.Deep.QuietTactic
import Derived.BigQuiet
import Derived.Lib.Hide
import Derived.Handy
import Derived.Deep.RegionHeld3
import Derived.Deep.DrawnRows
import Derived.KernelRfl
import Derived.Sort.Walk0
import Derived.Great.Walk
import Derived.Test.YtdpgkihecpjijaaDoorOwn
namespace Go.Proofs.YtdpgkihecpjijaaDoor.T
open Go Go.RowKit Mem Own
set_option maxRecDepth 100000
set_option maxHeartbeats 1000000
set_option linter.unusedVariables false
set_option linter.unusedSimpArgs false

/-- ref10.Same -/
theorem rsame_is (v u : Value) (a b : Vl) (w : World) (hv : VRd w v a) (hu : VRd w u b) :
    Calls Tryd.prog 17 #[v, u] w (BoolOut (a = b) w) := by
  obtain ⟨⟨PA, pc, IA, ic, rfl, hp1, hp2⟩, a1, a2, a3, -, -⟩ := hv
  obtain ⟨⟨PB, qc, IB, jc, rfl, hp3, hp4⟩, b1, b2, b3, -, -⟩ := hu
  obtain ⟨k, t, ps, is, re, im⟩ := a
  obtain ⟨k2, t2, qs, js, re2, im2⟩ := b
  dsimp only at hp1 hp2 hp3 hp4 a1 a2 a3 b1 b2 b3 ⊢
  have HP := Lib.hid hp1; have HI := Lib.hid hp2; have HQ := Lib.hid hp3; have HJ := Lib.hid hp4
  have A2 := Lib.hid a2
  clear hp1 hp2 hp3 hp4 a2 b2 a3 b3
  unfold maxLen at a1 b1
  have hu := Tryd.underlying25
  by_cases hl : ps.length = qs.length
  · obtain ⟨N, hN⟩ : ∃ N, N = ps.length := ⟨_, rfl⟩
    rw [← hl, ← hN]
    have hNa : ps.length = N := hN.symm
    have hNb : qs.length = N := by omega
    have HNa := Lib.hid hNa; have HNb := Lib.hid hNb
    rw [← hN] at a1
    clear hN hNa hNb hl b1
    go_enter Tryd.func17, Tryd.ntmps17
    go_wp2_with fail
    go_loopw [5] (fun x wr => ∃ j : Nat, j ≤ N ∧ x = .int .i64 j ∧ RowKit.Hid (Below w.heap.size w wr) ∧ RowKit.Hid (wr.heap[w.heap.size]? = some (vO k t PA N pc IA is.length ic re im)) ∧ RowKit.Hid (wr.heap[w.heap.size + 1]? = some (vO k2 t2 PB N qc IB js.length jc re2 im2)) ∧ RowKit.Hid (∀ i (h1 : i < ps.length) (h2 : i < qs.length), i < j → ps[i] = qs[i])) (fun x _ => N - (intOf x).toNat)
    case atStart => exact ⟨0, Nat.zero_le _, rfl, Lib.hid (by ((repeat (first | exact Below.refl _ _ | (refine Below.drew ?_) | (refine Go.below_drewN ?_ _) | (refine Below.alloc ?_ (by first | (simp; done) | omega | (simp; omega)) _) | (refine Below.setCell ?_ (by first | (simp; done) | omega | (simp; omega)) _) | (refine Below.trans ?_ (Below.mono (by assumption) (by first | (simp; done) | omega | (simp; omega)))))); done)), Lib.hid (keep_block ((Below.refl _ _).alloc (Nat.le_refl _) _) (heap_alloc_new _ _)), Lib.hid (by have := heap_alloc_new (w.alloc (vO k t PA N pc IA is.length ic re im)) (vO k2 t2 PB N qc IB js.length jc re2 im2); rw [alloc_size] at this; exact this), Lib.hid fun i _ _ h => by omega⟩
    case round =>
      obtain ⟨j, hj, rfl, HBW, HX, HY, HS⟩ := hrel
      obtain ⟨d0, d1, d2, d3, d4, d5⟩ := facts6 HX.out
      obtain ⟨e0, e1, e2, e3, e4, e5⟩ := facts6 HY.out
      by_cases hlt : j < N
      · have hlta := Lib.hid (show j < ps.length by rw [HNa.out]; exact hlt)
        have hltb := Lib.hid (show j < qs.length by rw [HNb.out]; exact hlt)
        obtain ⟨q1, o1, rfl⟩ := HP.out.addr (Nat.zero_lt_of_lt hlta.out)
        obtain ⟨q2, o2, rfl⟩ := HQ.out.addr (Nat.zero_lt_of_lt hltb.out)
        obtain ⟨g1, g3⟩ := (HP.out.below HBW.out).cell hlta.out
        obtain ⟨g2, g4⟩ := (HQ.out.below HBW.out).cell hltb.out
        obtain ⟨x, hx⟩ : ∃ x, x = ps[j]'hlta.out := ⟨_, rfl⟩
        obtain ⟨y, hy⟩ : ∃ y, y = qs[j]'hltb.out := ⟨_, rfl⟩
        rw [← hx] at g1 g3
        rw [← hy] at g2 g4
        obtain ⟨x1, x2⟩ := x
        obtain ⟨y1, y2⟩ := y
        dsimp only at g1 g2 g3 g4
        have HE1 := Lib.hid hx; have HE2 := Lib.hid hy
        clear hx hy
        by_cases h1 : x1 = y1
        · have m1 : (x1.toList == y1.toList) = true := by simp [h1]
          by_cases h2 : x2 = y2
          · have m2 : (x2.toList == y2.toList) = true := by simp [h2]
            have HE := Lib.hid (show (x1, x2) = (y1, y2) by rw [h1, h2])
            clear h1 h2
            go_wp2
            go_quiet (fail)
            go_wp2
            refine ⟨⟨j + 1, by omega, by go_num, Lib.hid (drewN_below HBW.out _), Lib.hid (by exact HX.out), Lib.hid (by exact HY.out), Lib.hid fun i h1 h2 hj => ?_⟩, by simp [intOf]; omega⟩
            rcases Nat.lt_succ_iff_lt_or_eq.1 hj with h | h
            · exact HS.out i h1 h2 h
            · subst h; rw [← HE1.out, ← HE2.out]; exact HE.out
          · have m2 : (x2.toList == y2.toList) = false := by simp; exact fun h => h2 (ba_inj h)
            have HE := Lib.hid (show ¬ (x1, x2) = (y1, y2) from fun e => h2 (by injection e))
            clear h1 h2
            go_wp2
            go_quiet (fail)
            go_wp2
            go_ret
            refine ⟨false, rfl, no_iff fun e => HE.out ?_, drewN_below HBW.out _⟩
            injection e with _ _ e
            rw [HE1.out, HE2.out]; simp [e]
        · have m1 : (x1.toList == y1.toList) = false := by simp; exact fun h => h1 (ba_inj h)
          have HE := Lib.hid (show ¬ (x1, x2) = (y1, y2) from fun e => h1 (by injection e))
          clear h1
          go_wp2
          go_quiet (fail)
          go_wp2
          go_ret
          refine ⟨false, rfl, no_iff fun e => HE.out ?_, drewN_below HBW.out _⟩
          injection e with _ _ e
          rw [HE1.out, HE2.out]; simp [e]
      · have HPS := Lib.hid (show ps = qs from eq_of_same (by rw [HNa.out, HNb.out]) fun i h1 h2 => HS.out i h1 h2 (by have := HNa.out; omega))
        clear HS
        by_cases hk : k = k2
        · have m1 : (k == k2) = true := by simp [hk]
          have Hhk := Lib.hid hk
          clear hk
          by_cases ht : t = t2
          · have m2 : (t.toList == t2.toList) = true := by simp [ht]
            have Hht := Lib.hid ht
            clear ht
            by_cases hr : re = re2
            · have m3 : (re == re2) = true := by simp [hr]
              have Hhr := Lib.hid hr
              clear hr
              by_cases hm : im = im2
              · have m4 : (im == im2) = true := by simp [hm]
                have Hhm := Lib.hid hm
                clear hm
                by_cases hit : is = js
                · have HD := Lib.hid (decide_eq_true hit)
                  have HIT := Lib.hid hit
                  clear hit
                  have hbw := HBW.out
                  have hzw := hbw.size
                  go_wp2_with (go_at_call 35; refine Calls.mono (refs_is _ _ is js _ _ _ (HI.out.below ?_) (HJ.out.below ?_) A2.out) ?_; (focus ((repeat (first | exact Below.refl _ _ | (refine Below.drew ?_) | (refine Go.below_drewN ?_ _) | (refine Below.alloc ?_ (by first | (simp; done) | omega | (simp; omega)) _) | (refine Below.setCell ?_ (by first | (simp; done) | omega | (simp; omega)) _) | (refine Below.trans ?_ (Below.mono (by assumption) (by first | (simp; done) | omega | (simp; omega)))))); done)); (focus ((repeat (first | exact Below.refl _ _ | (refine Below.drew ?_) | (refine Go.below_drewN ?_ _) | (refine Below.alloc ?_ (by first | (simp; done) | omega | (simp; omega)) _) | (refine Below.setCell ?_ (by first | (simp; done) | omega | (simp; omega)) _) | (refine Below.trans ?_ (Below.mono (by assumption) (by first | (simp; done) | omega | (simp; omega)))))); done)); rintro e w1 ⟨rfl, hb1⟩; rw [HD.out])
                  go_ret
                  exact ⟨true, rfl, ⟨fun _ => by rw [Hhk.out, Hht.out, Hhr.out, Hhm.out, HPS.out, HIT.out], fun _ => rfl⟩, (by ((repeat (first | exact Below.refl _ _ | (refine Below.drew ?_) | (refine Go.below_drewN ?_ _) | (refine Below.alloc ?_ (by first | (simp; done) | omega | (simp; omega)) _) | (refine Below.setCell ?_ (by first | (simp; done) | omega | (simp; omega)) _) | (refine Below.trans ?_ (Below.mono (by assumption) (by first | (simp; done) | omega | (simp; omega)))))); done))⟩
                · have HD := Lib.hid (decide_eq_false hit)
                  have NE := Lib.hid hit
                  clear hit
                  have hbw := HBW.out
                  have hzw := hbw.size
                  go_wp2_with (go_at_call 35; refine Calls.mono (refs_is _ _ is js _ _ _ (HI.out.below ?_) (HJ.out.below ?_) A2.out) ?_; (focus ((repeat (first | exact Below.refl _ _ | (refine Below.drew ?_) | (refine Go.below_drewN ?_ _) | (refine Below.alloc ?_ (by first | (simp; done) | omega | (simp; omega)) _) | (refine Below.setCell ?_ (by first | (simp; done) | omega | (simp; omega)) _) | (refine Below.trans ?_ (Below.mono (by assumption) (by first | (simp; done) | omega | (simp; omega)))))); done)); (focus ((repeat (first | exact Below.refl _ _ | (refine Below.drew ?_) | (refine Go.below_drewN ?_ _) | (refine Below.alloc ?_ (by first | (simp; done) | omega | (simp; omega)) _) | (refine Below.setCell ?_ (by first | (simp; done) | omega | (simp; omega)) _) | (refine Below.trans ?_ (Below.mono (by assumption) (by first | (simp; done) | omega | (simp; omega)))))); done)); rintro e w1 ⟨rfl, hb1⟩; rw [HD.out])
                  go_ret
                  exact ⟨false, rfl, no_iff fun e => NE.out (by injection e), (by ((repeat (first | exact Below.refl _ _ | (refine Below.drew ?_) | (refine Go.below_drewN ?_ _) | (refine Below.alloc ?_ (by first | (simp; done) | omega | (simp; omega)) _) | (refine Below.setCell ?_ (by first | (simp; done) | omega | (simp; omega)) _) | (refine Below.trans ?_ (Below.mono (by assumption) (by first | (simp; done) | omega | (simp; omega)))))); done))⟩
              · have m4 : (im == im2) = false := by simp [hm]
                have NE := Lib.hid hm
                clear hm
                have hbw := HBW.out
                go_wp2
                go_ret
                exact ⟨false, rfl, no_iff fun e => NE.out (by injection e), hbw⟩
            · have m3 : (re == re2) = false := by simp [hr]
              have NE := Lib.hid hr
              clear hr
              have hbw := HBW.out
              go_wp2
              go_ret
              exact ⟨false, rfl, no_iff fun e => NE.out (by injection e), hbw⟩
          · have m2 : (t.toList == t2.toList) = false := by simp; exact fun h => ht (ba_inj h)
            have NE := Lib.hid ht
            clear ht
            have hbw := HBW.out
            go_wp2
            go_ret
            exact ⟨false, rfl, no_iff fun e => NE.out (by injection e), hbw⟩
        · have m1 : (k == k2) = false := by simp [hk]
          have NE := Lib.hid hk
          clear hk
          have hbw := HBW.out
          go_wp2
          go_ret
          exact ⟨false, rfl, no_iff fun e => NE.out (by injection e), hbw⟩
  · have hl2 : ((ps.length : Int) != (qs.length : Int)) = true := by simp; omega
    have HL := Lib.hid hl
    clear hl
    go_enter Tryd.func17, Tryd.ntmps17
    go_wp2
    go_ret
    exact ⟨false, rfl, no_iff fun e => HL.out (by injection e with _ _ e; rw [e]), (by ((repeat (first | exact Below.refl _ _ | (refine Below.drew ?_) | (refine Go.below_drewN ?_ _) | (refine Below.alloc ?_ (by first | (simp; done) | omega | (simp; omega)) _) | (refine Below.setCell ?_ (by first | (simp; done) | omega | (simp; omega)) _) | (refine Below.trans ?_ (Below.mono (by assumption) (by first | (simp; done) | omega | (simp; omega)))))); done))⟩
end Go.Proofs.YtdpgkihecpjijaaDoor.T
