import Derived.Deep.DeepCutAuto
import Derived.Laws.OwnMore
import Derived.OwnWalk
import Derived.Lib.AppendStr
import Derived.Lib.SliceRun
import Derived.Lib.SmallJoins
import Derived.IntWalk
import Derived.Lib.ItoaLen
import Derived.Test.YtdfijefgklhmdaaDoorProg
import Derived.Test.YtdfijefgklhmdaaDoorShelf
import Derived.Test.YtdfijefgklhmdaaDoorMem
import Derived.Test.YtdfijefgklhmdaaDoorR1
import Derived.Test.YtdfijefgklhmdaaDoorRa
import Derived.Test.YtdfijefgklhmdaaDoorRb
import Derived.Test.YtdfijefgklhmdaaDoorRc
import Derived.Test.YtdfijefgklhmdaaDoorRe
import Derived.Test.YtdfijefgklhmdaaDoorRf
import Derived.Test.YtdfijefgklhmdaaDoorRg
import Derived.Test.YtdfijefgklhmdaaDoorRh
import Derived.Test.YtdfijefgklhmdaaDoorRi
import Derived.Test.YtdfijefgklhmdaaDoorRk
import Derived.Test.YtdfijefgklhmdaaDoorRl
import Derived.Test.YtdfijefgklhmdaaDoorRm
import Derived.Test.YtdfijefgklhmdaaDoorRn
import Derived.Deep.AppendLies
import Derived.WalkKit
import Derived.Outline
import Derived.WalkLawsBesides
import Derived.Deep.QuietTactic
import Derived.BigQuiet
import Derived.Lib.Hide
import Derived.Handy
import Derived.Deep.RegionHeld3
import Derived.Deep.DrawnRows
import Derived.KernelRfl
import Derived.Great.Walk
import Derived.Test.YtdfijefgklhmdaaDoorOwn
namespace Go.Proofs.YtdfijefgklhmdaaDoor.T
open Go Go.RowKit Go.Sort Mem Own
set_option maxRecDepth 100000
set_option maxHeartbeats 1000000
set_option linter.unusedVariables false
set_option linter.unusedSimpArgs false

/-- ReshardKeeps -/
theorem keeps_is (A : Option Addr) (l : List Mv) (c : Nat) (B T : Int) (w : World) (ha : RdM w A l) (hc : l.length ≤ c) (hcm : c ≤ maxLen) (hT : Tab w) : Calls Tryd.prog 4 #[plV A l.length c B T] w fun e w' => e = .returned (.bool true) ∧ Below w.heap.size w w' := by
  obtain ⟨i0, hi, hz0, hz1, hz2⟩ := info_parts info37
  have HA := Lib.hid ha; have HT := Lib.hid hT; have HC := Lib.hid hc; have HCM := Lib.hid hcm
  have HOLD := Lib.hid ha.old
  have HLM := Lib.hid (Nat.le_trans hc hcm)
  have HX0 := Lib.hid (heap_alloc_new w (.cells #[.slice A l.length c, .int .i64 B, .int .i64 T] 24))
  have HBW0 := Lib.hid ((Below.refl w.heap.size w).alloc (Nat.le_refl _) (.cells #[.slice A l.length c, .int .i64 B, .int .i64 T] 24))
  clear ha hT hc hcm
  by_cases hlong : 100 < l.length
  · go_enter Tryd.func4, Tryd.ntmps4
    go_wp2_with (go_at_call 8; refine Calls.mono (alive_is _ (HT.out.keep ?_)) ?_; (focus ((repeat (first | exact Below.refl _ _ | (refine Below.drew ?_) | (refine Go.below_drewN ?_ _) | (refine Below.alloc ?_ (by first | (simp; done) | omega | (simp; omega)) _) | (refine Below.setCell ?_ (by first | (simp; done) | omega | (simp; omega)) _) | (refine Below.trans ?_ (Below.mono (by assumption) (by first | (simp; done) | omega | (simp; omega)))))); done)); rintro e w1 ⟨rfl, hb1⟩)
    go_ret
    exact ⟨rfl, (by ((repeat (first | exact Below.refl _ _ | (refine Below.drew ?_) | (refine Go.below_drewN ?_ _) | (refine Below.alloc ?_ (by first | (simp; done) | omega | (simp; omega)) _) | (refine Below.setCell ?_ (by first | (simp; done) | omega | (simp; omega)) _) | (refine Below.trans ?_ (Below.mono (by assumption) (by first | (simp; done) | omega | (simp; omega)))))); done))⟩
  · have hshort : l.length ≤ 100 := by omega
    clear hlong
    obtain ⟨N, hN⟩ : ∃ N, N = l.length := ⟨_, rfl⟩
    have HNN := Lib.hid hN
    rw [← hN] at hshort HX0 HBW0
    rw [← hN]
    clear hN
    go_enter Tryd.func4, Tryd.ntmps4
    go_upto_region 3 with fail
    go_cut [1, 3] (fun s1 s3 wx => ∃ (M : Option Addr) (k : Nat), s1 = .pointer (some ⟨w.heap.size, 0, none⟩) ∧ s3 = .slice M N k ∧ RowKit.Hid (wx.heap[w.heap.size]? = some (.cells #[.slice A N c, .int .i64 B, .int .i64 T] 24 (0, 0))) ∧ RowKit.Hid (wx.ownsRow w.heap.size 37 3 (.slice M N k) N (mvs l)) ∧ RowKit.Hid (Below w.heap.size w wx))
    case first =>
      cases A with
      | none =>
        have hl : l = [] := by rcases HA.out with h | ⟨b, off, h, _⟩; exact h; cases h
        subst hl
        obtain rfl : N = 0 := HNN.out
        go_wp2
        go_meet
        exact ⟨_, _, rfl, rfl, Lib.hid (keep_block ((Below.refl _ _).alloc (Nat.le_refl _) _) HX0.out), Lib.hid (by have := own_mono (World.ownsRow_lit (e := 37) (size := 3) (w.alloc (.cells #[.slice none 0 c, .int .i64 B, .int .i64 T] 24)) #[] 0 (Nat.le_refl _) (by decide) rfl) (base' := w.heap.size) (by rw [alloc_size]; omega); rw [alloc_size] at this; exact this), Lib.hid (by ((repeat (first | exact Below.refl _ _ | (refine Below.drew ?_) | (refine Go.below_drewN ?_ _) | (refine Below.alloc ?_ (by first | (simp; done) | omega | (simp; omega)) _) | (refine Below.setCell ?_ (by first | (simp; done) | omega | (simp; omega)) _) | (refine Below.trans ?_ (Below.mono (by assumption) (by first | (simp; done) | omega | (simp; omega)))))); done))⟩
      | some a =>
        have hlen : (mvs l).length = N * 3 := by rw [mvs_len, ← HNN.out]
        have HN := Lib.hid (fun j u h => cell_below ((Below.refl (w.alloc (.cells #[.slice (some a) N c, .int .i64 B, .int .i64 T] 24)).heap.size (w.alloc (.cells #[.slice (some a) N c, .int .i64 B, .int .i64 T] 24))).alloc (Nat.le_refl _) (.cells #[] 37)) (newsM (HA.out.below HBW0.out) j u h))
        have HL := Lib.hid (show ((w.alloc (.cells #[.slice (some a) N c, .int .i64 B, .int .i64 T] 24)).alloc (.cells #[] 37)).ownsRow w.heap.size 37 3 (.slice (some ⟨w.heap.size + 1, 0, none⟩) 0 0) 0 [] by
          have := own_mono (World.ownsRow_lit (e := 37) (size := 3) (w.alloc (.cells #[.slice (some a) N c, .int .i64 B, .int .i64 T] 24)) #[] 0 (Nat.le_refl _) (by decide) rfl) (base' := w.heap.size) (by rw [alloc_size]; omega)
          rw [alloc_size] at this; exact this)
        have HX1 := Lib.hid (keep_block ((Below.refl _ _).alloc (Nat.le_refl _) (.cells #[] 37)) HX0.out)
        obtain ⟨nw, hnw⟩ : ∃ nw, nw = mvs l := ⟨_, rfl⟩
        have H1 := Lib.hid (show ∀ u ∈ mvs l, u.oneCell' = true by intro u hu; simp only [mvs, List.mem_flatMap] at hu; obtain ⟨x, _, hu⟩ := hu; simp [mvC] at hu; rcases hu with rfl | rfl | rfl <;> rfl)
        rw [← hnw] at HN hlen H1
        have HLN := Lib.hid hlen
        have HNW := Lib.hid hnw
        clear hnw hlen
        go_wp2_with (at_builtin; refine wpList_append_own _ rfl (.tmp 14) (.tmp 16) 22 rfl w.heap.size 37 i0 _ 3 24 Tryd.underlying22 hi hz0 hz1 hz2 rfl (by decide) (.slice (some ⟨w.heap.size + 1, 0, none⟩) 0 0) 0 [] rfl HL.out a N c nw rfl HLN.out HN.out H1.out (by unfold maxLen; omega) (by omega) (by rw [alloc_size, alloc_size]; omega) ?_; intro v1 w1 hown hg _; have HO1 := Lib.hid (show w1.ownsRow w.heap.size 37 3 v1 N nw by rw [Nat.zero_add] at hown; exact hown); have HG := Lib.hid hg; clear hown hg; obtain ⟨C, k, rfl⟩ := ownM_slice HO1.out)
        go_meet
        have hbb : Below (w.heap.size + 1) ((w.alloc (.cells #[.slice (some a) N c, .int .i64 B, .int .i64 T] 24)).alloc (.cells #[] 37)) w1 := (Below.refl _ _).grown HG.out (by rw [alloc_size, alloc_size]; omega) (fun k' hk => by have := (HL.out.lt k' hk).1; simp [Value.ownBlock] at hk; omega)
        exact ⟨C, k, rfl, rfl, Lib.hid (by rw [hbb.block w.heap.size (by omega)]; exact HX1.out), Lib.hid (by rw [← HNW.out]; exact HO1.out), Lib.hid ((HBW0.out.alloc (by rw [alloc_size]; omega) _).trans (hbb.mono (by omega)))⟩
    case rest =>
      obtain ⟨M, k, rfl, rfl, HX, HO, HB⟩ := hcut
      obtain rfl : N = l.length := HNN.out
      have hz := HB.out.size
      obtain ⟨x0, x1, x2⟩ := facts3 HX.out
      have hok := ownM_cap HO.out
      have HRM := Lib.hid (ownM_rd HO.out).1
      obtain ⟨E, hE⟩ : ∃ E, newErr l B T = E := ⟨_, rfl⟩
      have HE := Lib.hid hE
      clear hE
      by_cases h0 : E = 0
      · subst h0
        have HML := Lib.hid (fun b off (e : M = some ⟨b, off, none⟩) => (HO.out.lt b (by rw [e]; rfl)).2)
        go_upto_region 8 with (first
          | (go_at_call 9; refine Calls.mono (new_yes2 HRM.out hok.1 hok.2 HE.out) ?_; rintro e w1 ⟨g, C, kc, rfl, hg, HD, HCb, hb1⟩; have HX1 := Lib.hid (keep_block hb1 HX.out); have HB1 := Lib.hid (HB.out.trans (hb1.mono hz)); have hzz1 := HB1.out.size; have hzz1' := hb1.size; have HO1 := Lib.hid (own_bel HO.out hb1); clear x0 x1 x2 hb1; obtain ⟨x0, x1, x2⟩ := facts3 HX1.out)
          | (go_at_call 10; refine Calls.mono (rnew_yes (HA.out.below HB1.out) HLM.out HE.out) ?_; rintro e w2 ⟨rfl, hb2⟩; have HB2 := Lib.hid (HB1.out.trans (hb2.mono hzz1)); have hzz2 := HB2.out.size; have hzz2' := hb2.size; have HO2 := Lib.hid (own_bel HO1.out hb2); have HD2 := Lib.hid (HD.out.below hb2); clear x0 x1 x2 hb2))
        have ba := (Below.refl w2.heap.size w2).alloc (Nat.le_refl _) (.cells #[.slice A l.length c, .int .i64 B, .int .i64 T, .int .i64 1, .slice none 0 0, .int .i64 0, .bool false] 32)
        have HK0 := Lib.hid (show KpSt w A l c B T M k g C kc w2.heap.size wc.heap.size (mvs l) (w2.alloc (.cells #[.slice A l.length c, .int .i64 B, .int .i64 T, .int .i64 1, .slice none 0 0, .int .i64 0, .bool false] 32)) from
          ⟨HD2.out.below ba, (HA.out.below HB2.out).below ba, HOLD.out, own_bel HO2.out ba, HML.out, hg, HCb.out, by omega, heap_alloc_new _ _, HB2.out.alloc hzz2 _⟩)
        clear ba
        go_wp2_with fail
        go_loopw [46] (fun x wr => ∃ (i : Nat) (xs : List Value), i ≤ l.length ∧ x = .int .i64 i ∧ RowKit.Hid (KpSt w A l c B T M k g C kc w2.heap.size wc.heap.size xs wr)) (fun x _ => l.length - (intOf x).toNat)
        case atStart => exact ⟨0, mvs l, Nat.zero_le _, rfl, HK0⟩
        case round =>
          obtain ⟨i, xs, hiN, rfl, HK⟩ := hrel
          by_cases hlt : i < l.length
          · obtain ⟨gm, cap, hM, -, -⟩ := HK.out.om.form (by omega)
            simp only [Value.slice.injEq, true_and] at hM
            obtain ⟨rfl, rfl⟩ := hM
            have hxl := HK.out.om.1
            have q0 := HK.out.om.cellAt (i * 3) (by omega)
            have q1 := HK.out.om.cellAt (i * 3 + 1) (by omega)
            have q2 := HK.out.om.cellAt (i * 3 + 2) (by omega)
            have r0 := HK.out.om.frozenAt (i * 3)
            have r1 := HK.out.om.frozenAt (i * 3 + 1)
            have r2 := HK.out.om.frozenAt (i * 3 + 2)
            rw [List.getElem?_eq_getElem (by omega)] at q0 q1 q2
            generalize xs[i * 3] = y0 at q0
            generalize xs[i * 3 + 1] = y1 at q1
            generalize xs[i * 3 + 2] = y2 at q2
            clear hxl
            go_wp2
            exact ⟨⟨i + 1, _, by omega, by go_num, Lib.hid (((HK.out.set (i * 3) _).set (i * 3 + 1) _).set (i * 3 + 2) _)⟩, by simp [intOf]; omega⟩
          · obtain ⟨y0, y1, y2, y3, y4, y5, y6⟩ := facts7 HK.out.b6
            go_wp2_with (first
              | (go_at_call 8; refine Calls.mono (alive_is _ (HT.out.keep HK.out.bl)) ?_; rintro e w3 ⟨rfl, hb3⟩; have HK3 := Lib.hid (HK.out.below hb3); clear y0 y1 y2 y3 y4 y5 y6; obtain ⟨y0, y1, y2, y3, y4, y5, y6⟩ := facts7 HK3.out.b6)
              | (go_at_call 11; refine Calls.mono (stands_new HK3.out.dr HK3.out.ra HE.out (HT.out.keep HK3.out.bl)) ?_; rintro e w4 ⟨rfl, hb4⟩))
            go_ret
            exact ⟨rfl, HK3.out.bl.trans (hb4.mono HK3.out.bl.size)⟩
      · go_wp2_with (first
          | (go_at_call 9; refine Calls.mono (new_no HRM.out hok.1 hok.2 HE.out h0) ?_; rintro e w1 ⟨rfl, hb1⟩; have HX1 := Lib.hid (keep_block hb1 HX.out); have HB1 := Lib.hid (HB.out.trans (hb1.mono hz)); have hzz1 := HB1.out.size; clear x0 x1 x2; obtain ⟨x0, x1, x2⟩ := facts3 HX1.out)
          | (go_at_call 10; refine Calls.mono (rnew_no (HA.out.below HB1.out) HLM.out HE.out h0) ?_; rintro e w2 ⟨rfl, hb2⟩; have HB2 := Lib.hid (HB1.out.trans (hb2.mono hzz1)); have hzz2 := HB2.out.size)
          | (go_at_call 8; refine Calls.mono (alive_is _ (HT.out.keep (HB2.out.alloc hzz2 _))) ?_; rintro e w3 ⟨rfl, hb3⟩))
        go_ret
        exact ⟨rfl, (HB2.out.alloc hzz2 _).trans (hb3.mono (by rw [alloc_size]; omega))⟩
end Go.Proofs.YtdfijefgklhmdaaDoor.T
