import Derived.Deep.DeepCutAuto
import Derived.Laws.OwnMore
import Derived.OwnWalk
import Derived.Lib.AppendStr
import Derived.Lib.SliceRun
import Derived.Lib.SmallJoins
import Derived.IntWalk
import Derived.WalkMore
import Derived.Lib.OthersKept
import Derived.Deep.LoopGhost
import Derived.Deep.RegionLaw
import Derived.Deep.AppendLies
import Derived.Test.YtmflalnajinejaaProg
import Derived.Test.YtmflalnajinejaaMem
import Derived.Test.YtmflalnajinejaaBlk
import Derived.Test.YtmflalnajinejaaAp
import Derived.Test.YtmflalnajinejaaKa
import Derived.Test.YtmflalnajinejaaKc
import Derived.Test.YtmflalnajinejaaKd
import Derived.Test.YtmflalnajinejaaKe
import Derived.Test.YtmflalnajinejaaKh
import Derived.Test.YtmflalnajinejaaKj
import Derived.Test.YtmflalnajinejaaKl
import Derived.Test.YtmflalnajinejaaKm
import Derived.Test.YtmflalnajinejaaKn
import Derived.Test.YtmflalnajinejaaKt
import Derived.Test.YtmflalnajinejaaKx
import Derived.Test.YtmflalnajinejaaKy
import Derived.Test.YtmflalnajinejaaLa
import Derived.Test.YtmflalnajinejaaLb
import Derived.Test.YtmflalnajinejaaMa
import Derived.Test.YtmflalnajinejaaMb
import Derived.Test.YtmflalnajinejaaMc
import Derived.Test.YtmflalnajinejaaMd
import Derived.Test.YtmflalnajinejaaMf
import Derived.Test.YtmflalnajinejaaNa
import Derived.Test.YtmflalnajinejaaNb
import Derived.Test.YtmflalnajinejaaNd
import Derived.Test.YtmflalnajinejaaNe
import Derived.Test.YtmflalnajinejaaNf
import Derived.Test.YtmflalnajinejaaNg
import Derived.WalkKit
import Derived.Outline
import Derived.WalkLawsBesides
import Derived.Deep.QuietTactic
import Derived.BigQuiet
import Derived.Lib.Hide
import Derived.Handy
import Derived.Deep.RegionHeld3
import Derived.Deep.DrawnRows
import Derived.KernelRfl
import Derived.Great.Walk
import Derived.Test.YtmflalnajinejaaOwn
namespace Go.Proofs.Ytmflalnajinejaa.T
open Go Go.RowKit Go.Sort Mem Own
set_option maxRecDepth 100000
set_option maxHeartbeats 1000000
set_option linter.unusedVariables false
set_option linter.unusedSimpArgs false

open Go.WideMaps Go.Maps
/-- Clone. -/
theorem doc_clone (g b k : Nat) (L : List Wy) (A : Option Addr) (N : Nat) (w : World) (h : Doc w g b k A N L) :
    Calls Try.prog 18 #[.pointer (some ⟨g, 0, none⟩)] w fun e w' => ∃ g' b', e = .returned (.pointer (some ⟨g', 0, none⟩)) ∧ Doc w' g' b' k A N L ∧ Below w.heap.size w w' ∧ w.heap.size ≤ g' ∧ w.heap.size ≤ b' := by
  obtain ⟨⟨Q, h1, h2⟩, h3, h4, h5⟩ := h
  exact (clone_is g b k Q w h1).mono fun e w' ⟨g', b', he, r1, r2, r3, r4⟩ => ⟨g', b', he, ⟨⟨Q, r1, h2⟩, h3, h4.keeps (keeps_below r2), h5⟩, r2, r3, r4⟩
set_option maxHeartbeats 16000000 in
/-- law18.LinksApart -/
theorem apart_is (l m : List Ox) (A M : Option Addr) (n s c d : Nat) (w : World) (hl : l.length = n) (hm : m.length = s) (hr : RdX w A l) (hrm : RdX w M m) (hwf : ∀ p ∈ l, p.way.wf) (hwm : ∀ p ∈ m, p.way.wf) :
    Calls Try.prog 7 #[.slice A n c, .slice M s d] w fun e w' => e = .returned (.bool true) ∧ Below w.heap.size w w' := by
  have HR := Lib.hid hr
  have HRM := Lib.hid hrm
  have HL := Lib.hid hl
  have HM := Lib.hid hm
  have HWF := Lib.hid hwf
  have HWM := Lib.hid hwm
  have HFW := Lib.hid (few_all (l := l))
  have HFV := Lib.hid (few_all (l := m))
  have HFC := Lib.hid (fun (wx : World) (hb : Below w.heap.size w wx) => few_is l A n c wx hl (hr.keeps (keeps_below hb)))
  have HFD := Lib.hid (fun (wx : World) (hb : Below w.heap.size w wx) => few_is m M s d wx hm (hrm.keeps (keeps_below hb)))
  clear hr hl hwf hrm hm hwm
  generalize fewB l = sb at HFW HFC
  generalize fewB m = sc at HFV HFD
  go_enter Try.func7, Try.ntmps7
  go_upto_region 2 with (go_at_call 8; refine Calls.mono (new_is _) ?_; (rintro e w1 ⟨g, b, rfl, hL, hb, hg, hbb⟩; have HLK := Lib.hid hL; have HB := Lib.hid hb; have HG := Lib.hid hg; have HBB := Lib.hid hbb; clear hL hb hg hbb))
  cases sb with
  | false =>
    clear HFD HFV
    go_wp2_with (first
      | (go_at_call 9; refine Calls.mono (HFC.out _ HB.out) ?_; (rintro e w2 ⟨rfl, hb2⟩; have HB2 := Lib.hid (HB.out.trans (hb2.mono HB.out.size)); clear hb2))
      | (go_at_call 10; refine Calls.mono (alive_is _) ?_; (rintro e w3 ⟨rfl, hb3⟩; have HB3 := Lib.hid (HB2.out.trans (hb3.mono HB2.out.size)); clear hb3)))
    go_ret
    exact ⟨rfl, HB3.out⟩
  | true =>
  cases sc with
  | false =>
    go_wp2_with (first
      | ((fail_if_success (have := HB2)); go_at_call 9; refine Calls.mono (HFC.out _ HB.out) ?_; (rintro e w2 ⟨rfl, hb2⟩; have HB2 := Lib.hid (HB.out.trans (hb2.mono HB.out.size)); clear hb2))
      | ((fail_if_success (have := HB3)); go_at_call 9; refine Calls.mono (HFD.out _ HB2.out) ?_; (rintro e w3 ⟨rfl, hb3⟩; have HB3 := Lib.hid (HB2.out.trans (hb3.mono HB2.out.size)); clear hb3))
      | (go_at_call 10; refine Calls.mono (alive_is _) ?_; (rintro e w4 ⟨rfl, hb4⟩; have HB4 := Lib.hid (HB3.out.trans (hb4.mono HB3.out.size)); clear hb4)))
    go_ret
    exact ⟨rfl, HB4.out⟩
  | true =>
    have HF := Lib.hid (HFW.out rfl)
    have HE := Lib.hid (HFV.out rfl)
    have hn200 : n ≤ 200 := by rw [← HL.out]; exact HF.out.1
    have hs200 : s ≤ 200 := by rw [← HM.out]; exact HE.out.1
    go_upto_region 4 with (first
      | ((fail_if_success (have := HB2)); go_at_call 9; refine Calls.mono (HFC.out _ HB.out) ?_; (rintro e w2 ⟨rfl, hb2⟩; have HB2 := Lib.hid (HB.out.trans (hb2.mono HB.out.size)); have HL2 := Lib.hid (HLK.out.below hb2); clear hb2))
      | ((fail_if_success (have := HB3)); go_at_call 9; refine Calls.mono (HFD.out _ HB2.out) ?_; (rintro e w3 ⟨rfl, hb3⟩; have HB3 := Lib.hid (HB2.out.trans (hb3.mono HB2.out.size)); have HD3 := Lib.hid (Doc.new (HL2.out.below hb3)); clear hb3)))
    clear HFC HFD HFW HFV HLK HL2 HB HB2
    as_aux_lemma =>
      go_wp2_with fail
      go_loopw [6, 42] (fun s6 s42 wr => ∃ i : Nat, i ≤ n ∧ s42 = .int .i64 i ∧ ∃ (k N : Nat) (A' : Option Addr) (c' : Nat) (L : List Wy), s6 = .slice A' N c' ∧ k ≤ i ∧ N ≤ i ∧ RowKit.Hid (Doc wr g b k A' N L) ∧ RowKit.Hid (Below w.heap.size w wr)) (fun _ s42 _ => n - (intOf s42).toNat)
      case atStart => exact ⟨0, Nat.zero_le _, rfl, 0, 0, none, 0, [], rfl, Nat.zero_le _, Nat.zero_le _, HD3, HB3⟩
      case round =>
        clear HD3 HB3
        obtain ⟨i, hi, rfl, k, N, A', c', L, rfl, hk, hN, HD, HBi⟩ := hrel
        have hzr := HBi.out.size
        by_cases hlt : i < n
        · have hlt2 := Lib.hid (show i < l.length by rw [HL.out]; exact hlt)
          obtain ⟨bq, off, rfl, hrow⟩ := HR.out.row (Nat.zero_lt_of_lt hlt2.out)
          obtain ⟨o, hx, g0, g1, gg2, g3, g4, g5, g6, g7, g8, g9, g10, g11, g12, g13, g14, g15⟩ := ((hrow i hlt2.out).keeps (keeps_below HBi.out)).cells
          have HX := Lib.hid hx
          have HT := Lib.hid (HF.out.2 _ (List.getElem_mem hlt2.out))
          have HPW := Lib.hid (HWF.out _ (List.getElem_mem hlt2.out))
          clear hrow hx
          generalize l[i]'hlt2.out = p at g0 g1 gg2 g3 g4 g5 g6 g7 g8 g9 g10 g11 g12 g13 g14 g15 HX HT HPW
          go_upto_region 7 with fail
          go_cut [8] (fun s6 wx => ∃ b6 : Nat, s6 = .pointer (some ⟨b6, 0, none⟩) ∧ RowKit.Hid (wx.heap[b6]? = some (.cells (oxC p o) 35 (0, 0))) ∧ RowKit.Hid (LtO wx p.x o) ∧ RowKit.Hid (Doc wx g b k A' N L) ∧ RowKit.Hid (Below w.heap.size w wx))
          case first =>
            go_wp2
            go_meet
            exact ⟨_, rfl, Lib.hid (heap_alloc_new wr _), Lib.hid (HX.out.keeps (keeps_below ((Below.refl _ _).alloc (Nat.le_refl _) _))), Lib.hid (HD.out.below ((Below.refl _ _).alloc (Nat.le_refl _) _)), Lib.hid (HBi.out.alloc hzr _)⟩
          obtain ⟨b6, rfl, H6, HX1, HD1, HB1⟩ := hcut
          obtain ⟨y0, y1, y2, y3, y4, y5, y6, y7, y8, y9, y10, y11, y12, y13, y14, y15⟩ := cells16 H6.out
          have hz1 := HB1.out.size
          clear g0 g1 gg2 g3 g4 g5 g6 g7 g8 g9 g10 g11 g12 g13 g14 g15 HD HBi HX
          have HDO := Lib.hid (doc_does g b k L A' N c' p o wc HD1.out (by omega) (by omega) HX1.out HPW.out HT.out.1 HT.out.2)
          go_wp2_with (go_at_call 11; refine Calls.mono HDO.out ?_; (rintro e w2 ⟨A2, N2, c2, rfl, hd, hn2, hgr⟩; have HD2 := Lib.hid hd; have hN2 : N2 ≤ N + 1 := hn2; have HB2 := Lib.hid (below_turn HB1.out hgr HBB.out hz1); clear hd hn2 hgr))
          exact ⟨⟨i + 1, by omega, by go_num, k + 1, N2, A2, c2, _, rfl, by omega, by omega, HD2, HB2⟩, by simp [intOf]; omega⟩
        · have hin : i = n := by omega
          subst hin
          have hk2 : k ≤ 200 := by omega
          have hN2 : N ≤ 200 := by omega
          clear hk hN
          have HCL := Lib.hid (doc_clone g b k L A' N wr HD.out)
          go_upto_region 16 with (go_at_call 18; refine Calls.mono HCL.out ?_; (rintro e w4 ⟨g2, b2, rfl, hd, hb4, hg2, hb2⟩; have HU4 := Lib.hid hd; have HD4 := Lib.hid (HD.out.below hb4); have HB4 := Lib.hid (HBi.out.trans (hb4.mono hzr)); have HNE := Lib.hid (show b ≠ b2 by have := HD.out.isMap; obtain ⟨es, ck, e⟩ := this; have := lt_of_blk e; omega); have HB2G := Lib.hid (Nat.le_trans hzr hb2); clear hd hb4 hg2 hb2))
          clear HCL HD HBi hzr
          as_aux_lemma =>
            go_wp2_with fail
            go_loopw [12, 64] (fun s12 s64 wr => ∃ i : Nat, i ≤ s ∧ s64 = .int .i64 i ∧ ∃ (k3 N3 : Nat) (A3 : Option Addr) (c3 : Nat) (U : List Wy), s12 = .slice A3 N3 c3 ∧ k3 ≤ 200 + i ∧ N3 ≤ 200 + i ∧ RowKit.Hid (Doc wr g2 b2 k3 A3 N3 U) ∧ RowKit.Hid (Doc wr g b k A' N L) ∧ RowKit.Hid (Below w.heap.size w wr)) (fun _ s64 _ => s - (intOf s64).toNat)
            case atStart => exact ⟨0, Nat.zero_le _, rfl, k, N, A', c', L, rfl, by omega, by omega, HU4, HD4, HB4⟩
            case round =>
              clear HU4 HD4 HB4
              obtain ⟨j, hj, rfl, k3, N3, A3, c3, U, rfl, hk3, hN3, HU, HD, HBi⟩ := hrel
              have hzr := HBi.out.size
              by_cases hlt : j < s
              · have hlt2 := Lib.hid (show j < m.length by rw [HM.out]; exact hlt)
                obtain ⟨bq, off, rfl, hrow⟩ := HRM.out.row (Nat.zero_lt_of_lt hlt2.out)
                obtain ⟨o, hx, g0, g1, gg2, g3, g4, g5, g6, g7, g8, g9, g10, g11, g12, g13, g14, g15⟩ := ((hrow j hlt2.out).keeps (keeps_below HBi.out)).cells
                have HX := Lib.hid hx
                have HT := Lib.hid (HE.out.2 _ (List.getElem_mem hlt2.out))
                have HPW := Lib.hid (HWM.out _ (List.getElem_mem hlt2.out))
                clear hrow hx
                generalize m[j]'hlt2.out = p at g0 g1 gg2 g3 g4 g5 g6 g7 g8 g9 g10 g11 g12 g13 g14 g15 HX HT HPW
                go_upto_region 19 with fail
                go_cut [14] (fun s6 wx => ∃ b6 : Nat, s6 = .pointer (some ⟨b6, 0, none⟩) ∧ RowKit.Hid (wx.heap[b6]? = some (.cells (oxC p o) 35 (0, 0))) ∧ RowKit.Hid (LtO wx p.x o) ∧ RowKit.Hid (Doc wx g2 b2 k3 A3 N3 U) ∧ RowKit.Hid (Doc wx g b k A' N L) ∧ RowKit.Hid (Below w.heap.size w wx))
                case first =>
                  go_wp2
                  go_meet
                  exact ⟨_, rfl, Lib.hid (heap_alloc_new wr _), Lib.hid (HX.out.keeps (keeps_below ((Below.refl _ _).alloc (Nat.le_refl _) _))), Lib.hid (HU.out.below ((Below.refl _ _).alloc (Nat.le_refl _) _)), Lib.hid (HD.out.below ((Below.refl _ _).alloc (Nat.le_refl _) _)), Lib.hid (HBi.out.alloc hzr _)⟩
                obtain ⟨b6, rfl, H6, HX1, HD1, HO1, HB1⟩ := hcut
                obtain ⟨y0, y1, y2, y3, y4, y5, y6, y7, y8, y9, y10, y11, y12, y13, y14, y15⟩ := cells16 H6.out
                have hz1 := HB1.out.size
                clear g0 g1 gg2 g3 g4 g5 g6 g7 g8 g9 g10 g11 g12 g13 g14 g15 HD HU HBi HX
                have HDO := Lib.hid (doc_does g2 b2 k3 U A3 N3 c3 p o wc HD1.out (by omega) (by omega) HX1.out HPW.out HT.out.1 HT.out.2)
                go_wp2_with (go_at_call 11; refine Calls.mono HDO.out ?_; (rintro e w2 ⟨A2, N2, c2, rfl, hd, hn2, hgr⟩; have HD2 := Lib.hid hd; have hN2 : N2 ≤ N3 + 1 := hn2; have HO2 := Lib.hid (HO1.out.other HD1.out (by exact HNE.out) hgr); have HB2 := Lib.hid (below_turn HB1.out hgr HB2G.out hz1); clear hd hn2 hgr))
                exact ⟨⟨j + 1, by omega, by go_num, k3 + 1, N2, A2, c2, _, rfl, by omega, by omega, HD2, HO2, HB2⟩, by simp [intOf]; omega⟩
              · have hjn : j = s := by omega
                subst hjn
                have hk4 : k3 ≤ 400 := by omega
                have hN4 : N3 ≤ 400 := by omega
                clear hk3 hN3
                go_upto_region 26 with (go_at_call 12; refine Calls.mono (doc_stands g b k L A' N c' wr HD.out (by omega) (by omega)) ?_; (rintro e w5 ⟨rfl, hb5⟩; have HD5 := Lib.hid (HD.out.below hb5); have HU5 := Lib.hid (HU.out.below hb5); have HB5 := Lib.hid (HBi.out.trans (hb5.mono hzr)); clear hb5))
                clear HD HU HBi hzr
                as_aux_lemma =>
                  go_wp2_with fail
                  go_loopw [6, 84] (fun s6 s84 wr => ∃ i : Nat, i ≤ j ∧ s84 = .int .i64 i ∧ ∃ (k N : Nat) (A' : Option Addr) (c' : Nat) (L : List Wy), s6 = .slice A' N c' ∧ k ≤ 200 + i ∧ N ≤ 200 + i ∧ RowKit.Hid (Doc wr g b k A' N L) ∧ RowKit.Hid (Doc wr g2 b2 k3 A3 N3 U) ∧ RowKit.Hid (Below w.heap.size w wr)) (fun _ s84 _ => j - (intOf s84).toNat)
                  case atStart => exact ⟨0, Nat.zero_le _, rfl, k, N, A', c', L, rfl, by omega, by omega, HD5, HU5, HB5⟩
                  case round =>
                    clear HD5 HU5 HB5
                    obtain ⟨i2, hi2, rfl, k, N, A', c', L, rfl, hk, hN, HD, HU, HBi⟩ := hrel
                    have hzr := HBi.out.size
                    by_cases hlt : i2 < j
                    · have hlt2 := Lib.hid (show i2 < m.length by rw [HM.out]; exact hlt)
                      obtain ⟨bq, off, rfl, hrow⟩ := HRM.out.row (Nat.zero_lt_of_lt hlt2.out)
                      obtain ⟨o, hx, g0, g1, gg2, g3, g4, g5, g6, g7, g8, g9, g10, g11, g12, g13, g14, g15⟩ := ((hrow i2 hlt2.out).keeps (keeps_below HBi.out)).cells
                      have HX := Lib.hid hx
                      have HT := Lib.hid (HE.out.2 _ (List.getElem_mem hlt2.out))
                      have HPW := Lib.hid (HWM.out _ (List.getElem_mem hlt2.out))
                      clear hrow hx
                      generalize m[i2]'hlt2.out = p at g0 g1 gg2 g3 g4 g5 g6 g7 g8 g9 g10 g11 g12 g13 g14 g15 HX HT HPW
                      go_upto_region 28 with fail
                      go_cut [19] (fun s6 wx => ∃ b6 : Nat, s6 = .pointer (some ⟨b6, 0, none⟩) ∧ RowKit.Hid (wx.heap[b6]? = some (.cells (oxC p o) 35 (0, 0))) ∧ RowKit.Hid (LtO wx p.x o) ∧ RowKit.Hid (Doc wx g b k A' N L) ∧ RowKit.Hid (Doc wx g2 b2 k3 A3 N3 U) ∧ RowKit.Hid (Below w.heap.size w wx))
                      case first =>
                        go_wp2
                        go_meet
                        exact ⟨_, rfl, Lib.hid (heap_alloc_new wr _), Lib.hid (HX.out.keeps (keeps_below ((Below.refl _ _).alloc (Nat.le_refl _) _))), Lib.hid (HD.out.below ((Below.refl _ _).alloc (Nat.le_refl _) _)), Lib.hid (HU.out.below ((Below.refl _ _).alloc (Nat.le_refl _) _)), Lib.hid (HBi.out.alloc hzr _)⟩
                      obtain ⟨b6, rfl, H6, HX1, HD1, HO1, HB1⟩ := hcut
                      obtain ⟨y0, y1, y2, y3, y4, y5, y6, y7, y8, y9, y10, y11, y12, y13, y14, y15⟩ := cells16 H6.out
                      have hz1 := HB1.out.size
                      clear g0 g1 gg2 g3 g4 g5 g6 g7 g8 g9 g10 g11 g12 g13 g14 g15 HD HU HBi HX
                      have HDO := Lib.hid (doc_does g b k L A' N c' p o wc HD1.out (by omega) (by omega) HX1.out HPW.out HT.out.1 HT.out.2)
                      go_wp2_with (go_at_call 11; refine Calls.mono HDO.out ?_; (rintro e w2 ⟨A2, N2, c2, rfl, hd, hn2, hgr⟩; have HD2 := Lib.hid hd; have hN2 : N2 ≤ N + 1 := hn2; have HO2 := Lib.hid (HO1.out.other HD1.out (by exact HNE.out.symm) hgr); have HB2 := Lib.hid (below_turn HB1.out hgr HBB.out hz1); clear hd hn2 hgr))
                      exact ⟨⟨i2 + 1, by omega, by go_num, k + 1, N2, A2, c2, _, rfl, by omega, by omega, HD2, HO2, HB2⟩, by simp [intOf]; omega⟩
                    · have hin2 : i2 = j := by omega
                      subst hin2
                      go_wp2_with (first
                        | (go_at_call 10; refine Calls.mono (alive_is _) ?_; (rintro e w5 ⟨rfl, hb5⟩; have HD5 := Lib.hid (HD.out.below hb5); have HU5 := Lib.hid (HU.out.below hb5); have HB5 := Lib.hid (HBi.out.trans (hb5.mono hzr)); clear hb5))
                        | ((fail_if_success (have := HB6)); go_at_call 12; refine Calls.mono (doc_stands g2 b2 k3 U A3 N3 c3 w5 HU5.out (by omega) (by omega)) ?_; (rintro e w6 ⟨rfl, hb6⟩; have HD6 := Lib.hid (HD5.out.below hb6); have HB6 := Lib.hid (HB5.out.trans (hb6.mono HB5.out.size)); clear hb6))
                        | ((fail_if_success (have := HB7)); go_at_call 12; refine Calls.mono (doc_stands g b k L A' N c' w6 HD6.out (by omega) (by omega)) ?_; (rintro e w7 ⟨rfl, hb7⟩; have HB7 := Lib.hid (HB6.out.trans (hb7.mono HB6.out.size)); clear hb7)))
                      go_ret
                      exact ⟨rfl, HB7.out⟩
      
end Go.Proofs.Ytmflalnajinejaa.T
