import Derived.Deep.DeepCutAuto
import Derived.Laws.OwnMore
import Derived.OwnWalk
import Derived.Lib.AppendStr
import Derived.Lib.SliceRun
import Derived.Lib.SmallJoins
import Derived.IntWalk
import Derived.WalkMore
import Derived.Lib.OthersKept
import Derived.Deep.LoopGhost
import Derived.Deep.RegionLaw
import Derived.Deep.AppendLies
import Derived.Test.YtmflalnajinejaaProg
import Derived.Test.YtmflalnajinejaaMem
import Derived.Test.YtmflalnajinejaaBlk
import Derived.Test.YtmflalnajinejaaAp
import Derived.Test.YtmflalnajinejaaKc
import Derived.Test.YtmflalnajinejaaKm
import Derived.Test.YtmflalnajinejaaKn
import Derived.Test.YtmflalnajinejaaKo
import Derived.Test.YtmflalnajinejaaKp
import Derived.Test.YtmflalnajinejaaKr
import Derived.Test.YtmflalnajinejaaKs
import Derived.Test.YtmflalnajinejaaKl
import Derived.Test.YtmflalnajinejaaKd
import Derived.Test.YtmflalnajinejaaKa
import Derived.Test.YtmflalnajinejaaKe
import Derived.Test.YtmflalnajinejaaKh
import Derived.Test.YtmflalnajinejaaKj
import Derived.Test.YtmflalnajinejaaKy
import Derived.Test.YtmflalnajinejaaLa
import Derived.Test.YtmflalnajinejaaLb
import Derived.Test.YtmflalnajinejaaMa
import Derived.Test.YtmflalnajinejaaMb
import Derived.Test.YtmflalnajinejaaMc
import Derived.Test.YtmflalnajinejaaMd
import Derived.Test.YtmflalnajinejaaKx
import Derived.WalkKit
import Derived.Outline
import Derived.WalkLawsBesides
import Derived.Deep.QuietTactic
import Derived.BigQuiet
import Derived.Lib.Hide
import Derived.Handy
import Derived.Deep.RegionHeld3
import Derived.Deep.DrawnRows
import Derived.KernelRfl
import Derived.Great.Walk
import Derived.Test.YtmflalnajinejaaOwn
namespace Go.Proofs.Ytmflalnajinejaa.T
open Go Go.RowKit Go.Sort Mem Own
set_option maxRecDepth 100000
set_option maxHeartbeats 1000000
set_option linter.unusedVariables false
set_option linter.unusedSimpArgs false

/-- What few lets in. -/
theorem few_all {l : List Ox} (h : fewB l = true) : l.length ≤ 200 ∧ ∀ p ∈ l, Tiny p.x.rep ∧ p.x.args.length ≤ 100 := by
  unfold fewB at h
  simp only [Bool.and_eq_true, decide_eq_true_eq, List.all_eq_true] at h
  refine ⟨h.1, fun p hp => ?_⟩
  have := h.2 p hp
  unfold fewO at this
  simp only [Bool.and_eq_true, decide_eq_true_eq] at this
  exact ⟨⟨0, this.1⟩, this.2⟩
theorem LK.grow {w w' : World} {g b n : Nat} {Q : En → List Lt} (h : LK w g b n Q) (o : Obj) (hw : w' = w.alloc o) : LK w' g b n Q := by
  subst hw; exact h.below ((Below.refl _ _).alloc (Nat.le_refl _) o)
theorem len_le_sum {α : Type} : ∀ (l : List α) (f : α → Nat), (∀ x ∈ l, 1 ≤ f x) → l.length ≤ (l.map f).sum
  | [], _, _ => Nat.zero_le _
  | a :: l, f, h => by
    have h1 := h a (by simp)
    have h2 := len_le_sum l f fun x hx => h x (List.mem_cons_of_mem _ hx)
    simp only [List.length_cons, List.map_cons, List.sum_cons]; omega
set_option maxHeartbeats 8000000 in
/-- law18.LinksCount -/
theorem count_is (l : List Ox) (A : Option Addr) (n c : Nat) (w : World) (hl : l.length = n) (hr : RdX w A l) (hwf : ∀ p ∈ l, p.way.wf) :
    Calls Try.prog 6 #[.slice A n c] w fun e w' => e = .returned (.bool true) ∧ Below w.heap.size w w' := by
  have HR := Lib.hid hr
  have HL := Lib.hid hl
  have HWF := Lib.hid hwf
  have HFW := Lib.hid (few_all (l := l))
  have HFC := Lib.hid (fun (wx : World) (hb : Below w.heap.size w wx) => few_is l A n c wx hl (hr.keeps (keeps_below hb)))
  clear hr hl hwf
  generalize fewB l = sb at HFW HFC
  go_enter Try.func6, Try.ntmps6
  go_upto_region 2 with (go_at_call 8; refine Calls.mono (new_is _) ?_; (rintro e w1 ⟨g, b, rfl, hL, hb, hg, hbb⟩; have HLK := Lib.hid hL; have HB := Lib.hid hb; have HG := Lib.hid hg; have HBB := Lib.hid hbb; clear hL hb hg hbb))
  cases sb with
  | false =>
    go_wp2_with (first
      | (go_at_call 9; refine Calls.mono (HFC.out _ HB.out) ?_; (rintro e w2 ⟨rfl, hb2⟩; have HB2 := Lib.hid (HB.out.trans (hb2.mono HB.out.size)); clear hb2))
      | (go_at_call 10; refine Calls.mono (alive_is _) ?_; (rintro e w3 ⟨rfl, hb3⟩; have HB3 := Lib.hid (HB2.out.trans (hb3.mono HB2.out.size)); clear hb3)))
    go_ret
    exact ⟨rfl, HB3.out⟩
  | true =>
    have HF := Lib.hid (HFW.out rfl)
    have hn200 : n ≤ 200 := by rw [← HL.out]; exact HF.out.1
    go_upto_region 4 with (go_at_call 9; refine Calls.mono (HFC.out _ HB.out) ?_; (rintro e w2 ⟨rfl, hb2⟩; have HB2 := Lib.hid (HB.out.trans (hb2.mono HB.out.size)); have HLK2 := Lib.hid (HLK.out.below hb2); clear hb2))
    clear HFC HFW HLK HB
    go_wp2_with fail
    go_loopw [4, 27] (fun s4 s27 wr => ∃ i : Nat, i ≤ n ∧ s27 = .int .i64 i ∧ ∃ (k m : Nat) (Q : En → List Lt) (Lw : List Wy), s4 = .int .i64 m ∧ k ≤ i ∧ m ≤ i ∧ RowKit.Hid (Lw.length = m) ∧ RowKit.Hid (LK wr g b k Q) ∧ RowKit.Hid (QR Q Lw) ∧ RowKit.Hid (∀ p ∈ Lw, p.1.wf) ∧ RowKit.Hid (Below w.heap.size w wr)) (fun _ s27 _ => n - (intOf s27).toNat)
    case atStart => exact ⟨0, Nat.zero_le _, rfl, 0, 0, _, [], rfl, Nat.zero_le _, Nat.zero_le _, Lib.hid rfl, HLK2, Lib.hid QR.nil, Lib.hid (fun p hp => by cases hp), HB2⟩
    case round =>
      clear HLK2 HB2
      obtain ⟨i, hi, rfl, k, m, Q, Lw, rfl, hk, hm, HLW, HLi, HQ, HW, HBi⟩ := hrel
      have hzr := HBi.out.size
      by_cases hlt : i < n
      · have hlt2 := Lib.hid (show i < l.length by rw [HL.out]; exact hlt)
        obtain ⟨bq, off, rfl, hrow⟩ := HR.out.row (Nat.zero_lt_of_lt hlt2.out)
        obtain ⟨o, hx, g0, g1, g2, g3, g4, g5, g6, g7, g8, g9, g10, g11, g12, g13, g14, g15⟩ := ((hrow i hlt2.out).keeps (keeps_below HBi.out)).cells
        have HX := Lib.hid hx
        have HT := Lib.hid (HF.out.2 _ (List.getElem_mem hlt2.out))
        have HPW := Lib.hid (HWF.out _ (List.getElem_mem hlt2.out))
        clear hrow hx
        generalize l[i]'hlt2.out = p at g0 g1 g2 g3 g4 g5 g6 g7 g8 g9 g10 g11 g12 g13 g14 g15 HX HT HPW
        go_upto_region 7 with fail
        go_cut [6] (fun s6 wx => ∃ b6 : Nat, s6 = .pointer (some ⟨b6, 0, none⟩) ∧ RowKit.Hid (wx.heap[b6]? = some (.cells (oxC p o) 35 (0, 0))) ∧ RowKit.Hid (LtO wx p.x o) ∧ RowKit.Hid (LK wx g b k Q) ∧ RowKit.Hid (Below w.heap.size w wx))
        case first =>
          go_wp2
          go_meet
          exact ⟨_, rfl, Lib.hid (heap_alloc_new wr _), Lib.hid (HX.out.keeps (keeps_below ((Below.refl _ _).alloc (Nat.le_refl _) _))), Lib.hid (HLi.out.below ((Below.refl _ _).alloc (Nat.le_refl _) _)), Lib.hid (HBi.out.alloc hzr _)⟩
        case rest =>
          obtain ⟨b6, rfl, H6, HX1, HL1, HB1⟩ := hcut
          obtain ⟨pk, ⟨p1, p2⟩, px⟩ := p
          dsimp only at H6 HX1 HT HPW
          obtain ⟨y0, y1, y2, y3, y4, y5, y6, y7, y8, y9, y10, y11, y12, y13, y14, y15⟩ := cells16 H6.out
          dsimp only at y0 y1 y2 y3 y4 y5 y6 y7 y8 y9 y10 y11 y12 y13 y14 y15
          have hz1 := HB1.out.size
          clear g0 g1 g2 g3 g4 g5 g6 g7 g8 g9 g10 g11 g12 g13 g14 g15 HLi HBi HX
          by_cases hk0 : pk = 0
          · subst hk0
            go_wp2_with (go_at_call 13; refine Calls.mono (send_is g b k Q p1 p2 px o wc HL1.out HPW.out (by omega) HX1.out HT.out.1 (Nat.le_trans HT.out.2 (by omega))) ?_; (rintro e w2 ⟨rfl, hL, hgr, _⟩; have HL2 := Lib.hid hL; have HB2 := Lib.hid (below_turn HB1.out hgr HBB.out hz1); clear hL hgr))
            exact ⟨⟨i + 1, by omega, by go_num, k + 1, m + 1, _, Lw ++ [((p1, p2), px)], by go_num, by omega, by omega, Lib.hid (by simp [HLW.out]), HL2, Lib.hid (HQ.out.add _ _), Lib.hid (fun q hq => by rcases List.mem_append.1 hq with h | h; exact HW.out q h; simp at h; rw [h]; exact HPW.out), HB2⟩, by simp [intOf]; omega⟩
          · have hkb : (pk == 0) = false := by simpa using hk0
            rcases hq : Q (p1, p2) with _ | ⟨l1, r1⟩
            · have HQ0 := Lib.hid hq
              clear hq
              go_wp2_with (go_at_call 14; refine Calls.mono (next_0 g b k Q p1 p2 wc HL1.out HPW.out HQ0.out) ?_; (rintro e w4 ⟨rfl, hb4⟩; have HB4 := Lib.hid (HB1.out.trans (hb4.mono hz1)); have HL4 := Lib.hid (HL1.out.below hb4); clear hb4))
              exact ⟨⟨i + 1, by omega, by go_num, k, m, Q, Lw, rfl, by omega, by omega, HLW, Lib.hid (HL4.out.below ((Below.refl _ _).alloc (Nat.le_refl _) _)), HQ, HW, Lib.hid (HB4.out.alloc HB4.out.size _)⟩, by simp [intOf]; omega⟩
            · have HQ0 := Lib.hid hq
              clear hq
              have hml := (HQ.out.some HQ0.out).2
              rw [HLW.out] at hml
              obtain ⟨m2, hm2⟩ : ∃ m2, (rmW (p1, p2) Lw).length = m2 := ⟨_, rfl⟩
              have HM2 := Lib.hid hm2
              rw [hm2] at hml
              clear hm2
              have hml2 : m = m2 + 1 := hml.symm
              clear hml
              subst hml2
              go_wp2_with (go_at_call 14; refine Calls.mono (next_is g b k Q p1 p2 wc HL1.out HPW.out (Nat.lt_of_le_of_lt (show k ≤ 2000 by omega) (by decide)) l1 r1 HQ0.out) ?_; (rintro e w4 ⟨o4, rfl, ho, hL, hgr⟩; have HL4 := Lib.hid hL; have HB4 := Lib.hid (below_turn HB1.out hgr HBB.out hz1); clear hL hgr ho))
              exact ⟨⟨i + 1, by omega, by go_num, k + 1, m2, _, rmW (p1, p2) Lw, by go_num, by omega, by omega, HM2, Lib.hid (HL4.out.below ((Below.refl _ _).alloc (Nat.le_refl _) _)), Lib.hid (HQ.out.pop _), Lib.hid (fun q hq => HW.out q (rm_mem hq)), Lib.hid (HB4.out.alloc HB4.out.size _)⟩, by simp [intOf]; omega⟩
      · have hin : i = n := by omega
        subst hin
        go_upto_region 15 with fail
        have HP := Lib.hid (pairs_is g b k Q wr HLi.out (by omega))
        go_wp2_with (go_at_call 16; refine Calls.mono HP.out ?_; (rintro e w3 ⟨A2, c2, l2, rfl, hre, hp, hwf, hmm, hb3⟩; have HRE := Lib.hid hre; have HPR := Lib.hid hp; have HW2 := Lib.hid hwf; have HMM := Lib.hid hmm; have HB3 := Lib.hid (HBi.out.trans (hb3.mono hzr)); have HL3 := Lib.hid (HLi.out.below hb3); clear hre hp hwf hmm hb3))
        clear HP
        obtain ⟨N, hN⟩ : ∃ N, N = l2.length := ⟨_, rfl⟩
        have HN := Lib.hid hN.symm
        rw [← hN]
        clear hN
        have HSUM := Lib.hid (show m = ((l2.drop 0).map fun x => (Q x).length).sum by
          have h1 : l2.Nodup := HPR.out.imp (fun {a b} h e => by rw [e, bef_irr] at h; cases h)
          have h2 := cnt_sum (L := Lw) h1 fun p hp => (HMM.out _ (HW.out p hp)).2 ((HQ.out.mem _).2 ⟨p, hp, rfl⟩)
          rw [List.drop_zero, ← HLW.out, ← h2]
          congr 1
          exact List.map_congr_left fun x _ => (HQ.out.cnt x).symm)
        have HNE := Lib.hid (show ∀ x ∈ l2, 1 ≤ (Q x).length ∧ x.wf from fun x hx => ⟨List.length_pos_iff.2 ((HMM.out x (HW2.out x hx)).1 hx), HW2.out x hx⟩)
        have hN2 : N ≤ 200 := by
          have h1 := HSUM.out
          rw [List.drop_zero] at h1
          have h2 := len_le_sum l2 (fun x => (Q x).length) fun x hx => (HNE.out x hx).1
          have h3 := HN.out
          omega
        clear HMM HW2 HPR HLi HBi
        go_loopw [4, 60] (fun s4 s60 wx => ∃ j : Nat, j ≤ N ∧ s60 = .int .i64 j ∧ ∃ m' : Nat, s4 = .int .i64 m' ∧ m' ≤ 1000 ∧ RowKit.Hid (m' = ((l2.drop j).map fun x => (Q x).length).sum) ∧ RowKit.Hid (Below w3.heap.size w3 wx)) (fun _ s60 _ => N - (intOf s60).toNat)
        case atStart => exact ⟨0, Nat.zero_le _, rfl, m, rfl, by omega, HSUM, Lib.hid (Below.refl _ _)⟩
        case round =>
          clear HSUM hm
          obtain ⟨j, hj, rfl, m', rfl, hm', HS, HBj⟩ := hrel
          have hzj := HBj.out.size
          by_cases hlt : j < N
          · have hlt2 := Lib.hid (show j < l2.length by rw [HN.out]; exact hlt)
            obtain ⟨be, offe, rfl, hrow⟩ := HRE.out.row (Nat.zero_lt_of_lt hlt2.out)
            have g0 := cell_below HBj.out (hrow j hlt2.out).1
            have g1 := cell_below HBj.out (hrow j hlt2.out).2
            have HE := Lib.hid (HNE.out _ (List.getElem_mem hlt2.out))
            have HD := Lib.hid (show m' = (Q (l2[j]'hlt2.out)).length + ((l2.drop (j + 1)).map fun x => (Q x).length).sum by rw [HS.out, List.drop_eq_getElem_cons hlt2.out, List.map_cons, List.sum_cons])
            clear hrow
            generalize l2[j]'hlt2.out = x at g0 g1 HE HD
            obtain ⟨ex, ey⟩ := x
            dsimp only at g0 g1
            obtain ⟨q, hq⟩ : ∃ q, (Q (ex, ey)).length = q := ⟨_, rfl⟩
            obtain ⟨m3, hm3⟩ : ∃ m3, ((l2.drop (j + 1)).map fun x => (Q x).length).sum = m3 := ⟨_, rfl⟩
            have HQQ := Lib.hid hq
            have HM3 := Lib.hid hm3.symm
            have hmm3 : m' = m3 + q := by have := HD.out; rw [hq, hm3] at this; omega
            have hq1 : 1 ≤ q := by have := HE.out.1; rw [hq] at this; exact this
            have hqd : decide ((q : Int) < 1) = false := by simp; omega
            clear HD HS hq hm3
            subst hmm3
            go_upto_region 17 with fail
            go_cut [10] (fun s10 wx => ∃ b6 : Nat, s10 = .pointer (some ⟨b6, 0, none⟩) ∧ RowKit.Hid (wx.heap[b6]? = some (.cells #[.int .i64 ex, .int .i64 ey] 40 (0, 0))) ∧ RowKit.Hid (Below w3.heap.size w3 wx))
            case first =>
              go_wp2
              go_meet
              exact ⟨_, rfl, Lib.hid (heap_alloc_new wr _), Lib.hid (HBj.out.alloc hzj _)⟩
            case rest =>
              obtain ⟨b6, rfl, H6, HB6⟩ := hcut
              obtain ⟨y0, y1⟩ := cells2 H6.out
              clear g0 g1
              have HWT := Lib.hid (show Calls Try.prog 17 #[.pointer (some ⟨g, 0, none⟩), .int .i64 ex, .int .i64 ey] wc fun e w' => e = .returned (.int .i64 q) ∧ wc = w' from (waiting_is g b k Q ex ey wc (HL3.out.below HB6.out) HE.out.2).mono fun e w' h => ⟨by rw [h.1, HQQ.out], h.2⟩)
              go_wp2_with (go_at_call 17; refine Calls.mono HWT.out ?_; (rintro e w6 ⟨rfl, rfl⟩))
              exact ⟨⟨j + 1, by omega, by go_num, m3, by go_num, by omega, HM3, HB6⟩, by simp [intOf]; omega⟩
          · have hin : j = N := by omega
            subst hin
            have hm0 : m' = 0 := by have := HS.out; rw [← HN.out, List.drop_length] at this; exact this
            subst hm0
            go_wp2_with (go_at_call 10; refine Calls.mono (alive_is _) ?_; (rintro e w5 ⟨rfl, hb5⟩; have HB5 := Lib.hid (HB3.out.trans ((HBj.out.trans (hb5.mono hzj)).mono HB3.out.size)); clear hb5))
            go_ret
            exact ⟨rfl, HB5.out⟩
end Go.Proofs.Ytmflalnajinejaa.T
