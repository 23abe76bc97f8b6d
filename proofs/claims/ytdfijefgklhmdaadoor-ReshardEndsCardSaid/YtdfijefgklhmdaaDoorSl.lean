import Derived.Deep.DeepCutAuto
import Derived.Laws.OwnMore
import Derived.OwnWalk
import Derived.Lib.AppendStr
import Derived.Lib.SliceRun
import Derived.Lib.SmallJoins
import Derived.IntWalk
import Derived.Lib.ItoaLen
import Derived.Deep.AppendLies
import Derived.Test.YtdfijefgklhmdaaDoorProg
import Derived.Test.YtdfijefgklhmdaaDoorShelf
import Derived.Test.YtdfijefgklhmdaaDoorMem
import Derived.Deep.RegionLaw
import Derived.Test.YtdfijefgklhmdaaDoorSk
import Derived.WalkKit
import Derived.Outline
import Derived.WalkLawsBesides
import Derived.Deep.QuietTactic
import Derived.BigQuiet
import Derived.Lib.Hide
import Derived.Handy
import Derived.Deep.RegionHeld3
import Derived.Deep.DrawnRows
import Derived.KernelRfl
import Derived.Great.Walk
import Derived.Test.YtdfijefgklhmdaaDoorOwn
namespace Go.Proofs.YtdfijefgklhmdaaDoor.T
open Go Go.RowKit Go.Sort Mem Own
set_option maxRecDepth 100000
set_option maxHeartbeats 1000000
set_option linter.unusedVariables false
set_option linter.unusedSimpArgs false

set_option maxHeartbeats 2000000 in
/-- ReshardAll -/
theorem all_is (A : Option Addr) (l : List Mv) (c : Nat) (B T : Int) (AA : Option Addr) (la : List An) (ca : Nat) (w : World) (ha : RdM w A l) (hc : l.length ≤ c) (hcm : c ≤ maxLen) (haa : RdA w AA la) (hok : ∀ x ∈ la, AnOk w x) (hT : Tab w) : Calls Tryd.prog 6 #[plV A l.length c B T, .slice AA la.length ca] w fun e w' => e = .returned (.bool true) ∧ Below w.heap.size w w' := by
  have HA := Lib.hid ha; have HT := Lib.hid hT; have HC := Lib.hid hc; have HCM := Lib.hid hcm; have HAA := Lib.hid haa; have HOK := Lib.hid hok
  have HX0 := Lib.hid (heap_alloc_new w (.cells #[.slice A l.length c, .int .i64 B, .int .i64 T] 24))
  have HBW0 := Lib.hid ((Below.refl w.heap.size w).alloc (Nat.le_refl _) (.cells #[.slice A l.length c, .int .i64 B, .int .i64 T] 24))
  clear ha hT hc hcm haa hok
  by_cases h1 : 100 < l.length
  · go_enter Tryd.func6, Tryd.ntmps6
    go_wp2_with (go_at_call 8; refine Calls.mono (alive_is _ (HT.out.keep ?_)) ?_; (focus ((repeat (first | exact Below.refl _ _ | (refine Below.drew ?_) | (refine Go.below_drewN ?_ _) | (refine Below.alloc ?_ (by first | (simp; done) | omega | (simp; omega)) _) | (refine Below.setCell ?_ (by first | (simp; done) | omega | (simp; omega)) _) | (refine Below.trans ?_ (Below.mono (by assumption) (by first | (simp; done) | omega | (simp; omega)))))); done)); rintro e w1 ⟨rfl, hb1⟩; have hz1 := hb1.size; (try simp at hz1))
    go_ret
    exact ⟨rfl, (by ((repeat (first | exact Below.refl _ _ | (refine Below.drew ?_) | (refine Go.below_drewN ?_ _) | (refine Below.alloc ?_ (by first | (simp; done) | omega | (simp; omega)) _) | (refine Below.setCell ?_ (by first | (simp; done) | omega | (simp; omega)) _) | (refine Below.trans ?_ (Below.mono (by assumption) (by first | (simp; done) | omega | (simp; omega)))))); done))⟩
  by_cases h2 : 500 < la.length
  · go_enter Tryd.func6, Tryd.ntmps6
    go_wp2_with (go_at_call 8; refine Calls.mono (alive_is _ (HT.out.keep ?_)) ?_; (focus ((repeat (first | exact Below.refl _ _ | (refine Below.drew ?_) | (refine Go.below_drewN ?_ _) | (refine Below.alloc ?_ (by first | (simp; done) | omega | (simp; omega)) _) | (refine Below.setCell ?_ (by first | (simp; done) | omega | (simp; omega)) _) | (refine Below.trans ?_ (Below.mono (by assumption) (by first | (simp; done) | omega | (simp; omega)))))); done)); rintro e w1 ⟨rfl, hb1⟩; have hz1 := hb1.size; (try simp at hz1))
    go_ret
    exact ⟨rfl, (by ((repeat (first | exact Below.refl _ _ | (refine Below.drew ?_) | (refine Go.below_drewN ?_ _) | (refine Below.alloc ?_ (by first | (simp; done) | omega | (simp; omega)) _) | (refine Below.setCell ?_ (by first | (simp; done) | omega | (simp; omega)) _) | (refine Below.trans ?_ (Below.mono (by assumption) (by first | (simp; done) | omega | (simp; omega)))))); done))⟩
  have h1' : l.length ≤ 100 := by omega
  have h2' : la.length ≤ 500 := by omega
  have HLL := Lib.hid h1'
  clear h1 h2
  obtain ⟨E, hE⟩ : ∃ E, newErr l B T = E := ⟨_, rfl⟩
  have HE := Lib.hid hE
  clear hE
  obtain ⟨N, hN⟩ : ∃ N, N = la.length := ⟨_, rfl⟩
  have HNN := Lib.hid hN
  rw [← hN] at h2' ⊢
  clear hN
  by_cases h0 : E = 0
  · subst h0
    have HL2 := Lib.hid (show l.length ≤ maxLen by unfold maxLen; omega)
    go_enter Tryd.func6, Tryd.ntmps6
    go_upto_region 3 with fail
    go_cut [2, 5, 6] (fun s2 s5 s6 wx => ∃ (g : Nat) (C : Option Addr) (kc : Nat), s2 = .pointer (some ⟨w.heap.size, 0, none⟩) ∧ s5 = .pointer (some ⟨g, 0, none⟩) ∧ s6 = .int .i64 0 ∧ RowKit.Hid (wx.heap[w.heap.size]? = some (.cells #[.slice A l.length c, .int .i64 B, .int .i64 T] 24 (0, 0))) ∧ RowKit.Hid (w.heap.size ≤ g) ∧ RowKit.Hid (DrRd wx g C kc none 0 (newD l B T)) ∧ RowKit.Hid (∀ b off, C = some ⟨b, off, none⟩ → b < wx.heap.size) ∧ RowKit.Hid (Below w.heap.size w wx))
    case first =>
      go_wp2_with ((go_at_call 9; refine Calls.mono (new_yes3 (HA.out.below HBW0.out) HC.out HCM.out HE.out) ?_; rintro e w1 ⟨g, C, kc, rfl, hg, HD, HCb, HB1⟩))
      go_meet
      exact ⟨g, C, kc, rfl, rfl, rfl, Lib.hid (keep_block HB1.out HX0.out), Lib.hid (by rw [alloc_size] at hg; omega), HD, HCb, Lib.hid (HBW0.out.trans (HB1.out.mono (by rw [alloc_size]; omega)))⟩
    case rest =>
      obtain ⟨g, C, kc, rfl, rfl, rfl, HX, HG, HD, HCb, HB⟩ := hcut
      obtain ⟨x0, x1, x2⟩ := facts3 HX.out
      go_upto_region 4 with fail
      go_cut [7, 8] (fun s7 s8 wx => ∃ b7 : Nat, s7 = .pointer (some ⟨b7, 0, none⟩) ∧ s8 = .int .i64 0 ∧ RowKit.Hid (AlSt w g C kc b7 (newD l B T) ⟨l, B, T, 1, [], 0, false⟩ A c none 0 wx))
      case first =>
        go_wp2_with ((go_at_call 10; refine Calls.mono (rnew_yes (HA.out.below HB.out) HL2.out HE.out) ?_; (rintro e w2 ⟨rfl, hb2⟩; have HB2 := Lib.hid hb2; clear hb2)))
        go_meet
        refine ⟨_, rfl, rfl, Lib.hid ?_⟩
        have ba := (Below.refl w2.heap.size w2).alloc (Nat.le_refl _) (.cells #[.slice A l.length c, .int .i64 B, .int .i64 T, .int .i64 1, .slice none 0 0, .int .i64 0, .bool false] 32)
        have hbw := HB.out.size
        have hb2 := HB2.out.size
        exact ⟨⟨none, 0, (HD.out.below HB2.out).below ba⟩, HG.out, by omega, (fun b off e => by have := HCb.out b off e; omega), (HB.out.trans (HB2.out.mono hbw)).alloc (by omega) _, heap_alloc_new _ _, newD_sim, newD_ok HE.out, Nat.zero_le _, HA.out, HC.out, .inl rfl, Nat.zero_le _⟩
      case rest =>
        obtain ⟨b7, rfl, rfl, HS0⟩ := hcut
        clear x0 x1 x2 HX HD HCb HB
        go_wp2_with fail
        go_loopw [56] (fun s56 wr => ∃ (i : Nat) (D : Dr) (R : Rv) (A1 : Option Addr) (c1 : Nat) (Q : Option Addr) (qc : Nat), i ≤ N ∧ s56 = .int .i64 i ∧ RowKit.Hid (AlSt w g C kc b7 D R A1 c1 Q qc wr)) (fun s56 _ => N - (intOf s56).toNat)
        case atStart => exact ⟨0, _, _, _, _, _, _, Nat.zero_le _, rfl, HS0⟩
        case round =>
          obtain ⟨i, D, R, A1, c1, Q, qc, hiN, rfl, HS⟩ := hrel
          clear HS0
          obtain ⟨y0, y1, y2, y3, y4, y5, y6⟩ := facts7 HS.out.b
          have hk7 := lt_of_block HS.out.b
          by_cases hlt : i < N
          · have hlt2 := Lib.hid (show i < la.length by rw [← HNN.out]; exact hlt)
            obtain ⟨b, off, rfl⟩ := HAA.out.addr (Nat.zero_lt_of_lt hlt2.out)
            obtain ⟨g0, g1, g2, g3⟩ := (HAA.out.below HS.out.bl).cell hlt2.out
            have HK := Lib.hid (HOK.out _ (List.getElem_mem hlt2.out))
            generalize la[i]'hlt2.out = q at g0 g1 g2 g3 HK
            obtain ⟨⟨qk, qz, qt, qs⟩, QA, qcc⟩ := q
            dsimp only at g0 g1 g2 g3
            obtain ⟨qn, hqn⟩ : ∃ qn, qn = qs.length := ⟨_, rfl⟩
            have HQN := Lib.hid hqn
            rw [← hqn] at g3
            clear hqn
            go_upto_region 11 with fail
            go_cut [10] (fun s10 wx => ∃ b10 : Nat, s10 = .pointer (some ⟨b10, 0, none⟩) ∧ RowKit.Hid (wx.heap[b10]? = some (.cells #[.int .i64 qk, .int .i64 qz, .string qt, .slice QA qn qcc] 41 (0, 0))) ∧ RowKit.Hid (AlSt w g C kc b7 D R A1 c1 Q qc wx) ∧ RowKit.Hid (RdK wx QA qs))
            case first =>
              go_wp2
              go_meet
              exact ⟨_, rfl, Lib.hid (heap_alloc_new wr _), Lib.hid (HS.out.below ((Below.refl _ _).alloc (Nat.le_refl _) _)), Lib.hid ((HK.out.1.below HS.out.bl).below ((Below.refl _ _).alloc (Nat.le_refl _) _))⟩
            case rest =>
              obtain ⟨b10, rfl, HX10, HS1, HK1⟩ := hcut
              obtain ⟨x0, x1, x2, x3⟩ := facts4 HX10.out
              clear g0 g1 g2 g3 y0 y1 y2 y3 y4 y5 y6 hk7
              obtain ⟨y0, y1, y2, y3, y4, y5, y6⟩ := facts7 HS1.out.b
              by_cases hq : 300 < qn
              · go_wp2_with (first
                  | (go_at_call 11; refine Calls.mono (HS1.out.stands HT.out) ?_; (rintro e w3 ⟨rfl, hb3⟩; have HB3 := Lib.hid (HS1.out.bl.trans (hb3.mono HS1.out.bl.size)); have HX3 := Lib.hid (keep_block hb3 HX10.out); clear x0 x1 x2 x3 hb3; obtain ⟨x0, x1, x2, x3⟩ := facts4 HX3.out))
                  | (go_at_call 8; refine Calls.mono (alive_is _ (HT.out.keep HB3.out)) ?_; (rintro e w4 ⟨rfl, hb4⟩; have HB4 := Lib.hid (HB3.out.trans (hb4.mono HB3.out.size)); clear hb4)))
                go_ret
                exact ⟨rfl, HB4.out⟩
              · have hq' : qn ≤ 300 := by omega
                go_wp2_with (first
                  | (go_at_call 11; refine Calls.mono (HS1.out.stands HT.out) ?_; (rintro e w3 ⟨rfl, hb3⟩; have HS3 := Lib.hid (HS1.out.below hb3); have HX3 := Lib.hid (keep_block hb3 HX10.out); have HK3 := Lib.hid (HK1.out.below hb3); clear x0 x1 x2 x3 hb3 y0 y1 y2 y3 y4 y5 y6; obtain ⟨x0, x1, x2, x3⟩ := facts4 HX3.out; obtain ⟨y0, y1, y2, y3, y4, y5, y6⟩ := facts7 HS3.out.b))
                  | (go_at_call 12; rw [HQN.out]; refine Calls.mono (HS3.out.ans ⟨qk, qz, qt, qs⟩ QA qcc HK3.out HK.out.2.2) ?_; (rintro e w4 ⟨rfl, HM, HG4⟩; have HX4 := Lib.hid (only_keep HG4.out HX3.out (by obtain ⟨Q1, q1, hd⟩ := HS3.out.dr; exact typ_ne HX3.out hd.blk (by decide))); have HK4 := Lib.hid (HK.out.1.below HM.out.bl); clear x0 x1 x2 x3 y0 y1 y2 y3 y4 y5 y6; obtain ⟨x0, x1, x2, x3⟩ := facts4 HX4.out; obtain ⟨y0, y1, y2, y3, y4, y5, y6⟩ := facts7 HM.out.b))
                  | (go_at_call 15; rw [HQN.out]; refine Calls.mono (HM.out.rans QA qcc HK4.out HK.out.2.2 HK.out.2.1) ?_; (rintro e w5 ⟨R', A', c', Q', qc', rfl, H7, HS5⟩; clear y0 y1 y2 y3 y4 y5 y6; obtain ⟨y0, y1, y2, y3, y4, y5, y6⟩ := facts7 H7.out; obtain ⟨f0, f1, f2, f3, f4, f5, f6⟩ := free7 H7.out; have hk7 := lt_of_block H7.out)))
                exact ⟨⟨i + 1, _, _, _, _, _, _, by omega, by go_num, HS5⟩, by simp [intOf]; omega⟩
          · go_wp2_with (first
              | (go_at_call 8; refine Calls.mono (alive_is _ (HT.out.keep HS.out.bl)) ?_; (rintro e w3 ⟨rfl, hb3⟩; have HS3 := Lib.hid (HS.out.below hb3); clear hb3 y0 y1 y2 y3 y4 y5 y6; obtain ⟨y0, y1, y2, y3, y4, y5, y6⟩ := facts7 HS3.out.b))
              | (go_at_call 11; refine Calls.mono (HS3.out.stands HT.out) ?_; (rintro e w4 ⟨rfl, hb4⟩; have HB4 := Lib.hid (HS3.out.bl.trans (hb4.mono HS3.out.bl.size)); clear hb4)))
            go_ret
            exact ⟨rfl, HB4.out⟩
  · have h0b : (E == 0) = false := by simp [h0]
    have HL2 := Lib.hid (show l.length ≤ maxLen by unfold maxLen; omega)
    have h0c : (E != 0) = true := by simp [h0]
    obtain ⟨x0, x1, x2⟩ := facts3 HX0.out
    go_enter Tryd.func6, Tryd.ntmps6
    go_wp2_with (first
      | (go_at_call 9; refine Calls.mono (new_no (HA.out.below HBW0.out) HC.out HCM.out HE.out h0) ?_; (rintro e w1 ⟨rfl, hb1⟩; have HX1 := Lib.hid (keep_block hb1 HX0.out); have HB1 := Lib.hid (HBW0.out.trans (hb1.mono HBW0.out.size)); have hzz1 := HB1.out.size; clear x0 x1 x2 hb1; obtain ⟨x0, x1, x2⟩ := facts3 HX1.out))
      | (go_at_call 10; refine Calls.mono (rnew_no (HA.out.below HB1.out) HL2.out HE.out h0) ?_; (rintro e w2 ⟨rfl, hb2⟩; have HB2 := Lib.hid (HB1.out.trans (hb2.mono hzz1)); have hzz2 := HB2.out.size))
      | (go_at_call 8; refine Calls.mono (alive_is _ (HT.out.keep (HB2.out.alloc hzz2 _))) ?_; rintro e w3 ⟨rfl, hb3⟩))
    go_ret
    exact ⟨rfl, (HB2.out.alloc hzz2 _).trans (hb3.mono (by rw [alloc_size]; omega))⟩
end Go.Proofs.YtdfijefgklhmdaaDoor.T
