import Derived.Deep.DeepCutAuto
import Derived.Laws.OwnMore
import Derived.OwnWalk
import Derived.Lib.AppendStr
import Derived.Lib.SliceRun
import Derived.Lib.SmallJoins
import Derived.IntWalk
import Derived.Lib.ItoaLen
import Derived.Deep.AppendLies
import Derived.Test.YtdfijefgklhmdaaDoorProg
import Derived.Test.YtdfijefgklhmdaaDoorShelf
import Derived.Test.YtdfijefgklhmdaaDoorMem
import Derived.Deep.RegionLaw
import Derived.Test.YtdfijefgklhmdaaDoorSq
import Derived.Test.YtdfijefgklhmdaaDoorSl
import Derived.WalkKit
import Derived.Outline
import Derived.WalkLawsBesides
import Derived.Deep.QuietTactic
import Derived.BigQuiet
import Derived.Lib.Hide
import Derived.Handy
import Derived.Deep.RegionHeld3
import Derived.Deep.DrawnRows
import Derived.KernelRfl
import Derived.Great.Walk
import Derived.Test.YtdfijefgklhmdaaDoorOwn
namespace Go.Proofs.YtdfijefgklhmdaaDoor.T
open Go Go.RowKit Go.Sort Mem Own
set_option maxRecDepth 100000
set_option maxHeartbeats 1000000
set_option linter.unusedVariables false
set_option linter.unusedSimpArgs false

/-- The keys are laid for the move. -/
def EnPh (zs : List Int) (D : Dr) (at' : Int) (K : List ByteArray) : Prop :=
  K.length ≤ 60 ∧ K.Nodup ∧ ((at' < D.dn ∧ D.call = 0) ∨ (at' = D.dn ∧ D.call ≠ 0 ∧ Ph (Fz zs) D K))
set_option maxHeartbeats 4000000 in
/-- ReshardEnds -/
theorem ends_is (A : Option Addr) (l : List Mv) (c : Nat) (B T : Int) (AM : Option Addr) (zs : List Int) (cm : Nat) (w : World) (ha : RdM w A l) (hc : l.length ≤ c) (hcm : c ≤ maxLen) (hz : RdI w AM zs) (hzn : zs.length * 8 ≤ 140737488355000) (hT : Tab w) : Calls Tryd.prog 7 #[plV A l.length c B T, .slice AM zs.length cm] w fun e w' => e = .returned (.bool true) ∧ Below w.heap.size w w' := by
  obtain ⟨i0, hi, hz0, hz1, hz2⟩ := info_parts info9
  have HA := Lib.hid ha; have HT := Lib.hid hT; have HC := Lib.hid hc; have HCM := Lib.hid hcm; have HZ := Lib.hid hz; have HZN := Lib.hid hzn
  have HX0 := Lib.hid (heap_alloc_new w (.cells #[.slice A l.length c, .int .i64 B, .int .i64 T] 24))
  have HBW0 := Lib.hid ((Below.refl w.heap.size w).alloc (Nat.le_refl _) (.cells #[.slice A l.length c, .int .i64 B, .int .i64 T] 24))
  clear ha hT hc hcm hz hzn
  by_cases h1 : 30 < l.length
  · go_enter Tryd.func7, Tryd.ntmps7
    go_wp2_with (go_at_call 8; refine Calls.mono (alive_is _ (HT.out.keep ?_)) ?_; (focus ((repeat (first | exact Below.refl _ _ | (refine Below.drew ?_) | (refine Go.below_drewN ?_ _) | (refine Below.alloc ?_ (by first | (simp; done) | omega | (simp; omega)) _) | (refine Below.setCell ?_ (by first | (simp; done) | omega | (simp; omega)) _) | (refine Below.trans ?_ (Below.mono (by assumption) (by first | (simp; done) | omega | (simp; omega)))))); done)); rintro e w1 ⟨rfl, hb1⟩; have hz1 := hb1.size; (try simp at hz1))
    go_ret
    exact ⟨rfl, (by ((repeat (first | exact Below.refl _ _ | (refine Below.drew ?_) | (refine Go.below_drewN ?_ _) | (refine Below.alloc ?_ (by first | (simp; done) | omega | (simp; omega)) _) | (refine Below.setCell ?_ (by first | (simp; done) | omega | (simp; omega)) _) | (refine Below.trans ?_ (Below.mono (by assumption) (by first | (simp; done) | omega | (simp; omega)))))); done))⟩
  have h1' : l.length ≤ 30 := by omega
  clear h1
  obtain ⟨E, hE⟩ : ∃ E, newErr l B T = E := ⟨_, rfl⟩
  have HE := Lib.hid hE
  clear hE
  by_cases h0 : E = 0
  · subst h0
    obtain ⟨ZN, hZN⟩ : ∃ ZN, ZN = zs.length := ⟨_, rfl⟩
    have HZL := Lib.hid hZN
    have hbt := (newD_ok HE.out).bt
    have hB1 : 1 ≤ B := hbt.1
    have hB2 : B ≤ 100 := hbt.2.1
    obtain ⟨Bn, rfl⟩ : ∃ Bn : Nat, B = (Bn : Int) := ⟨B.toNat, by omega⟩
    clear hbt
    rw [← hZN]
    clear hZN
    go_enter Tryd.func7, Tryd.ntmps7
    go_upto_region 3 with fail
    go_cut [2, 5, 6] (fun s2 s5 s6 wx => ∃ (g : Nat) (C : Option Addr) (kc : Nat), s2 = .pointer (some ⟨w.heap.size, 0, none⟩) ∧ s5 = .pointer (some ⟨g, 0, none⟩) ∧ s6 = .int .i64 0 ∧ RowKit.Hid (wx.heap[w.heap.size]? = some (.cells #[.slice A l.length c, .int .i64 Bn, .int .i64 T] 24 (0, 0))) ∧ RowKit.Hid (EnSt w g C kc l Bn (newD l Bn T) wx))
    case first =>
      go_wp2_with ((go_at_call 9; refine Calls.mono (new_yes3 (HA.out.below HBW0.out) HC.out HCM.out HE.out) ?_; rintro e w1 ⟨g, C, kc, rfl, hg, HD, HCb, HB1⟩))
      go_meet
      exact ⟨g, C, kc, rfl, rfl, rfl, Lib.hid (keep_block HB1.out HX0.out), Lib.hid ⟨⟨none, 0, HD.out⟩, by rw [alloc_size] at hg; omega, HBW0.out.trans (HB1.out.mono (by rw [alloc_size]; omega)), newD_ok HE.out, rfl, rfl, Nat.zero_le _, rfl⟩⟩
    case rest =>
      obtain ⟨g, C, kc, rfl, rfl, rfl, HX, HS⟩ := hcut
      obtain ⟨x0, x1, x2⟩ := facts3 HX.out
      go_wp2_with fail
      go_loop [7, 45] (fun s7 s45 => ∃ i : Nat, i ≤ l.length ∧ s45 = .int .i64 i ∧ s7 = .int .i64 ((ps (gz zs Bn) i : Nat) : Int)) (fun _ s45 => l.length - (intOf s45).toNat)
      case atStart => exact ⟨0, Nat.zero_le _, rfl, rfl⟩
      case round =>
        obtain ⟨i, hiM, rfl, rfl⟩ := hrel
        by_cases hlt : i < l.length
        · have HPS := Lib.hid (ps_succ (gz zs Bn) i)
          have hpl := ps_le (zs := zs) (B := Bn) i
          have HG := Lib.hid (show gz zs Bn i = 5 + Fz zs i + Fz zs i / Bn + 2 from rfl)
          have hF := Fz_le zs i
          generalize hpp : ps (gz zs Bn) i = p at HPS hpl ⊢
          clear hpp
          by_cases hz : i < ZN
          · have hz2 := Lib.hid (show i < zs.length by rw [← HZL.out]; exact hz)
            obtain ⟨mb, mo, rfl⟩ := HZ.out.addr (Nat.zero_lt_of_lt hz2.out)
            have g0 := (HZ.out.below HS.out.bl).cell hz2.out
            have hmm := Fz_in hz2.out
            generalize zs[i]'hz2.out = z at g0 hmm
            generalize Fz zs i = n at hmm hF HG
            have HNS := Lib.hid (show ((p + (5 + n + n / Bn + 2) : Nat) : Int) = ((ps (gz zs Bn) (i + 1) : Nat) : Int) by rw [HPS.out, HG.out])
            have HMS := Lib.hid (most_step (p := p) (n := n) (B := Bn) (by omega) hF)
            go_wp2
            exact ⟨⟨i + 1, by omega, by go_num, by rw [HMS.out, HNS.out]⟩, by simp [intOf]; omega⟩
          · have hz2 := Lib.hid (show ¬ i < zs.length by rw [← HZL.out]; exact hz)
            have hF0 := Fz_out hz2.out
            have HNS := Lib.hid (show ((p + (5 + 0 + 0 / Bn + 2) : Nat) : Int) = ((ps (gz zs Bn) (i + 1) : Nat) : Int) by rw [HPS.out, HG.out, hF0])
            clear hF0
            go_wp2
            exact ⟨⟨i + 1, by omega, by go_num, by rw [most_zero (B := Bn), HNS.out]⟩, by simp [intOf]; omega⟩
        · obtain rfl : i = l.length := by omega
          have HPL := Lib.hid (ps_le (zs := zs) (B := Bn) l.length)
          obtain ⟨PM, hPM⟩ : ∃ PM, PM = ps (gz zs Bn) l.length := ⟨_, rfl⟩
          have HPM := Lib.hid hPM
          rw [← hPM] at HPL ⊢
          clear hPM
          have hPM2 : PM ≤ 4000 := by have := HPL.out; omega
          have HPM2 := Lib.hid (show sm (fun m => mvc Bn (Fz zs m)) l.length 0 ≤ PM by rw [HPM.out, ← sm_ps]; exact sm_le (fun i => mvc_gz (by omega) i) _ _)
          go_wp2_with fail
          go_loopw [8, 11, 12] (fun s8 s11 s12 wr => ∃ (D : Dr) (K : List ByteArray) (AK : Option Addr) (kn ck calls : Nat) (at' : Int), s8 = .slice AK kn ck ∧ s11 = .int .i64 calls ∧ s12 = .int .i64 at' ∧ RowKit.Hid (kn = K.length) ∧ RowKit.Hid (-1 ≤ at') ∧ RowKit.Hid (EnSt w g C kc l Bn D wr) ∧ RowKit.Hid (EnPh zs D at' K) ∧ RowKit.Hid (Rd wr AK K) ∧ RowKit.Hid (kn ≤ ck) ∧ RowKit.Hid (calls + cost (Fz zs) l.length Bn D K ≤ PM) ∧ RowKit.Hid (wr.heap[w.heap.size]? = some (.cells #[.slice A l.length c, .int .i64 Bn, .int .i64 T] 24 (0, 0)))) (fun _ s11 _ _ => PM - (intOf s11).toNat)
          case atStart =>
            refine ⟨newD l Bn T, [], none, 0, 0, 0, -1, rfl, rfl, rfl, Lib.hid rfl, Lib.hid (by omega), HS, Lib.hid ⟨Nat.zero_le _, List.nodup_nil, .inl ⟨by show (-1 : Int) < ((0 : Nat) : Int); omega, rfl⟩⟩, Lib.hid (.inl rfl), Lib.hid (Nat.zero_le _), Lib.hid ?_, HX⟩
            have := HPM2.out
            by_cases hl0 : l.length = 0
            · simp [cost, newD, hl0, sm_end _ (Nat.zero_le _)]
            · rw [sm_step _ (by omega)] at this
              simpa [cost, newD, hl0] using this
          case round =>
            obtain ⟨D, K, AK, kn, ck, calls, at', rfl, rfl, rfl, HKN, HAT, HSt, HPh, HK, HKC, HCO, HXb⟩ := hrel
            clear HX HS x0 x1 x2
            have hcalls : calls ≤ PM := by have := HCO.out; omega
            by_cases hdl : D.dn < l.length
            · obtain ⟨n, hn⟩ : ∃ n, n + D.dn = l.length := ⟨l.length - D.dn, by omega⟩
              have HNN := Lib.hid hn
              have hn0 : 0 < n := by omega
              have hnl : n ≤ l.length := by omega
              have HAE := Lib.hid (show ¬ atEnd D by rintro (h | h); · have := HSt.out.nf; rw [this] at h; cases h
                                                     · have := HSt.out.pl; rw [this] at h; omega)
              have hnL := nextL_len D
              obtain ⟨nL, hnLe⟩ : ∃ nL, nL = (nextL D).length := ⟨_, rfl⟩
              rw [← hnLe] at hnL
              obtain ⟨hL3, hL5⟩ := hnL
              have HNL := Lib.hid hnLe
              clear hn hnLe
              go_upto_region 19 with (first
                | (go_at_call 16; refine Calls.mono (HSt.out.left n HNN.out) ?_; (rintro e w1 ⟨rfl, hb1⟩; have HS1 := Lib.hid (HSt.out.below hb1); have HK1 := Lib.hid (HK.out.below hb1); have HX1 := Lib.hid (keep_block hb1 HXb.out); clear hb1))
                | (go_at_call 13; refine Calls.mono (HS1.out.next HAE.out HT.out) ?_; (rintro e w2 ⟨A1, c1, rfl, HR1, hb2⟩; rw [← HNL.out]; have HS2 := Lib.hid (HS1.out.below hb2); have HK2 := Lib.hid (HK1.out.below hb2); have HX2 := Lib.hid (keep_block hb2 HX1.out); clear hb2)))
              obtain ⟨y0, y1, y2⟩ := facts3 HX2.out
              have hwb := lt_of_block HX2.out
              have hwr : IntKind.i64.wrap ((l.length : Int) - (n : Int)) = ((D.dn : Nat) : Int) := by rw [IntWalk.i64_in _ (by omega)]; have := HNN.out; omega
              go_upto_region 21 with fail
              go_region_held3 (fun w' => w'.cell? ⟨w.heap.size, 0, none⟩ = some (.slice A l.length c) ∧ Below w2.heap.size w2 w')
                (first | exact ⟨t1, hS1⟩ | (refine ⟨by simpa [go_sem] using y0, (by ((repeat (first | exact Below.refl _ _ | (refine Below.drew ?_) | (refine Go.below_drewN ?_ _) | (refine Below.alloc ?_ (by first | (simp; done) | omega | (simp; omega)) _) | (refine Below.setCell ?_ (by first | (simp; done) | omega | (simp; omega)) _) | (refine Below.trans ?_ (Below.mono (by assumption) (by first | (simp; done) | omega | (simp; omega)))))); done))⟩))
                (first
                  | (go_at_call 16; refine Calls.mono ((HS2.out.below ?_).left n HNN.out) ?_; (focus ((repeat (first | exact Below.refl _ _ | (refine Below.drew ?_) | (refine Go.below_drewN ?_ _) | (refine Below.alloc ?_ (by first | (simp; done) | omega | (simp; omega)) _) | (refine Below.setCell ?_ (by first | (simp; done) | omega | (simp; omega)) _) | (refine Below.trans ?_ (Below.mono (by assumption) (by first | (simp; done) | omega | (simp; omega)))))); done)); rintro e w3 ⟨rfl, hb3⟩; have hS1 : RowKit.Below w2.heap.size w2 w3 := (by ((repeat (first | exact Below.refl _ _ | (refine Below.drew ?_) | (refine Go.below_drewN ?_ _) | (refine Below.alloc ?_ (by first | (simp; done) | omega | (simp; omega)) _) | (refine Below.setCell ?_ (by first | (simp; done) | omega | (simp; omega)) _) | (refine Below.trans ?_ (Below.mono (by assumption) (by first | (simp; done) | omega | (simp; omega)))))); done)); have t1 := cell_below hS1 y0))
              clear hwr
              have HB3 := Lib.hid hS1
              have HS3 := Lib.hid (HS2.out.below hS1)
              have HK3 := Lib.hid (HK2.out.below hS1)
              have HX3 := Lib.hid (keep_block hS1 HX2.out)
              have HR3 := Lib.hid (HR1.out.below hS1)
              clear hb3 hS1 y0 y1 y2 t1
              obtain ⟨y0, y1, y2⟩ := facts3 HX3.out
              go_upto_if 98 with fail
              go_cut [8, 12] (fun s8 s12 wx => ∃ (K1 : List ByteArray) (AK1 : Option Addr) (kn1 ck1 : Nat), s8 = .slice AK1 kn1 ck1 ∧ s12 = .int .i64 (D.dn : Int) ∧ RowKit.Hid (kn1 = K1.length) ∧ RowKit.Hid (Rd wx AK1 K1) ∧ RowKit.Hid (kn1 ≤ ck1) ∧ RowKit.Hid (Ph (Fz zs) D K1) ∧ RowKit.Hid (calls + cost (Fz zs) l.length Bn D K1 ≤ PM) ∧ RowKit.Hid (Below w3.heap.size w3 wx))
              case first =>
                by_cases hat : at' = (D.dn : Int)
                · have hatb : ((D.dn : Int) != at') = false := by simp [hat]
                  have HP1 := Lib.hid (show Ph (Fz zs) D K by rcases HPh.out with ⟨h1, h2, ⟨h, _⟩ | ⟨_, _, h⟩⟩; · omega
                                                              · exact h)
                  have HAQ := Lib.hid hat
                  clear hat
                  go_wp2
                  go_meet
                  exact ⟨K, AK, kn, ck, rfl, by rw [HAQ.out], HKN, HK3, HKC, HP1, HCO, Lib.hid (Below.refl _ _)⟩
                · have hatb : ((D.dn : Int) != at') = true := by simp; omega
                  have HC0 := Lib.hid (show D.call = 0 by rcases HPh.out with ⟨h1, h2, ⟨_, h⟩ | ⟨h, _, _⟩⟩; · exact h
                                                          · omega)
                  clear hat
                  have HAL := Lib.hid (show RdI (w3.alloc (.cells #[] 3)) AM zs from (HZ.out.below HS3.out.bl).below ((Below.refl _ _).alloc (Nat.le_refl _) _))
                  have HLI := Lib.hid (World.ownsRow_lit (e := 3) (size := 1) w3 #[] 0 (Nat.le_refl _) (by decide) rfl)
                  have hdn := hdl
                  have hwb3 := lt_of_block HX3.out
                  have hidx : ((D.dn : Nat) : Int) < (ZN : Int) + (l.length : Int) := by omega
                  have hfz : max (min (zs[D.dn]?.getD 0) 60) 0 = ((Fz zs D.dn : Nat) : Int) := by unfold Fz; rw [List.getD_eq_getElem?_getD]; omega
                  go_upto_region 25 with fail
                  go_cut [111, 112] (fun s111 s112 wx => s111 = .int .i64 ((Fz zs D.dn : Nat) : Int) ∧ s112 = .int .i64 0 ∧ RowKit.Hid (Below w3.heap.size w3 wx))
                  case first =>
                    go_region_law
                      (first
                        | (refine step_append_run rfl (.tmp 100) (.tmp 101) 49 49 rfl (.slice (some ⟨w3.heap.size, 0, none⟩) 0 0) (.slice AM ZN cm) rfl rfl _ (by rw [HZL.out]; exact app_many (w3 := w3) (Nat.le_refl _) (by exact HLI.out) (by exact HAL.out) (by ((repeat (first | exact Below.refl _ _ | (refine Below.drew ?_) | (refine Go.below_drewN ?_ _) | (refine Below.alloc ?_ (by first | (simp; done) | omega | (simp; omega)) _) | (refine Below.setCell ?_ (by first | (simp; done) | omega | (simp; omega)) _) | (refine Below.trans ?_ (Below.mono (by assumption) (by first | (simp; done) | omega | (simp; omega)))))); done)) HZN.out) ?_; rintro v4 w4 ⟨hO4, hB4⟩; have HO4 := Lib.hid (show w4.ownsRow w3.heap.size 3 1 v4 ZN (ivs zs) by rw [HZL.out]; exact hO4); have HB4 := Lib.hid hB4; have HX4 := Lib.hid (keep_block hB4 HX3.out); clear hO4 hB4 y0 y1 y2; obtain ⟨y0, y1, y2⟩ := facts3 HX4.out; trace "ONE")
                        | (refine step_append_run rfl (.tmp 102) (.tmp 105) 49 3 rfl v4 (.int .i64 (l.length : Int)) rfl rfl _ (app_zeros (w3 := w3) HZL.out (by exact HO4.out) (by exact HB4.out) HZN.out h1' hdn) ?_; rintro v5 w5 ⟨g5, cap5, rfl, hc5, hB5⟩; trace "TWO"))
                    all_goals
                      go_wp2_with fail
                      go_meet
                      exact ⟨by first | rfl | rw [hfz], rfl, Lib.hid (by ((repeat (first | exact Below.refl _ _ | (refine Below.drew ?_) | (refine Go.below_drewN ?_ _) | (refine Below.alloc ?_ (by first | (simp; done) | omega | (simp; omega)) _) | (refine Below.setCell ?_ (by first | (simp; done) | omega | (simp; omega)) _) | (refine Below.trans ?_ (Below.mono (by assumption) (by first | (simp; done) | omega | (simp; omega)))))); done))⟩
                  case rest =>
                    obtain ⟨rfl, rfl, HB5⟩ := hcut
                    clear y0 y1 y2 hfz hdn hidx
                    have hFl := Fz_le zs D.dn
                    obtain ⟨F, hF⟩ : ∃ F, F = Fz zs D.dn := ⟨_, rfl⟩
                    have HFQ := Lib.hid hF
                    rw [← hF] at hFl ⊢
                    clear hF
                    go_wp2_with fail
                    go_loopw [8, 112] (fun s8 s112 wr => ∃ (v0 : Value) (i : Nat), v0 = s8 ∧ i ≤ F ∧ s112 = .int .i64 i ∧ RowKit.Hid (wr.ownsRow wc.heap.size 9 1 v0 i (vs (keysN i))) ∧ RowKit.Hid (Below wc.heap.size wc wr)) (fun _ s112 _ => F - (intOf s112).toNat)
                    case atStart => exact ⟨_, 0, rfl, Nat.zero_le _, rfl, Lib.hid (World.ownsRow_nil _ _ _ _), Lib.hid (Below.refl _ _)⟩
                    case round =>
                      obtain ⟨v0, i, rfl, hiF, rfl, HO, HBr⟩ := hrel
                      by_cases hlt : i < F
                      · have hi60 : i < 60 := by omega
                        have kc := conv_key wr i hi60 (97 + (i : Int) % 26) (97 + (i : Int) / 26) rfl rfl
                        have hk := keysN_succ i
                        have HKS := Lib.hid hk
                        clear hk
                        have hszr := HBr.out.size
                        generalize keyAt i = t at kc HKS
                        have HNW := Lib.hid (show ∀ j u, [Value.string t][j]? = some u → ((wr.alloc (.cells #[.int .u8 (97 + (i : Int) % 26), .int .u8 (97 + (i : Int) / 26)] 5)).alloc (.cells #[.string t] 9)).cell? ((⟨wr.heap.size + 1, 0, none⟩ : Addr).add j) = some u by
                          have := World.news_of_block (cs := #[.string t]) (t := 9) (fr := (0, 0)) (heap_alloc_new (wr.alloc (.cells #[.int .u8 (97 + (i : Int) % 26), .int .u8 (97 + (i : Int) / 26)] 5)) (.cells #[.string t] 9))
                          rw [alloc_size] at this
                          exact this)
                        go_wp2_with ((at_builtin; refine wpList_append_own _ rfl (.tmp 115) (.tmp 126) 30 rfl wc.heap.size 9 i0 _ 1 16 Tryd.underlying30 hi hz0 hz1 hz2 rfl (by decide) v0 i (vs (keysN i)) rfl ((HO.out.alloc _).alloc _) ⟨wr.heap.size + 1, 0, none⟩ 1 1 [.string t] rfl rfl HNW.out (by simp [Value.oneCell']) (by unfold maxLen; omega) (by omega) (by rw [alloc_size, alloc_size]; omega) ?_; intro v1 w1 hown hg _; have HO1 := Lib.hid (push_row hown); have HG := Lib.hid hg; clear hown hg))
                        have hbe : Below wc.heap.size wc w1 := ((HBr.out.alloc HBr.out.size _).alloc (by rw [alloc_size]; omega) _).grown HG.out (by rw [alloc_size, alloc_size]; omega) (fun k hk => by have := (HO.out.lt k hk).1; omega)
                        exact ⟨⟨v1, i + 1, rfl, by omega, by go_num, Lib.hid (by rw [HKS.out]; exact HO1.out), Lib.hid hbe⟩, by simp [intOf]; omega⟩
                      · obtain rfl : i = F := by omega
                        obtain ⟨AKn, ckn, rfl⟩ := own_slice HO.out
                        have HLN := Lib.hid (own_len HO.out)
                        have HRN := Lib.hid (own_rd (l := keysN i) (n := i) (by rw [HLN.out]; exact HO.out))
                        go_wp2
                        go_meet
                        have hB35 := HB5.out.trans (HBr.out.mono HB5.out.size)
                        refine ⟨keysN i, AKn, i, ckn, rfl, rfl, Lib.hid HLN.out.symm, Lib.hid HRN.out.1, Lib.hid (by have := HRN.out.2.2.1; rw [HLN.out] at this; exact this), Lib.hid ⟨HSt.out.nf, by rw [HLN.out]; exact hFl, keysN_nodup hFl, .inl ⟨HC0.out, by rw [HLN.out, HFQ.out]⟩⟩, Lib.hid ?_, Lib.hid hB35⟩
                        have := HCO.out
                        simpa [cost, HC0.out] using this
              case rest =>
                obtain ⟨K1, AK1, kn1, ck1, rfl, rfl, HKN1, HKx, HKCx, HP1, HCO1, HB1⟩ := hcut
                have HX5 := Lib.hid (keep_block HB1.out HX3.out)
                have HS5 := Lib.hid (HS3.out.below HB1.out)
                have HR5 := Lib.hid (HR3.out.below HB1.out)
                have HST := Lib.hid (by have := ph_step (F := Fz zs) HSt.out.ok HAE.out HP1.out; rw [HSt.out.pl, HSt.out.B, Int.toNat_natCast] at this; exact this)
                have HAS := Lib.hid (ansR_small D K1)
                have HTL := Lib.hid (show ∀ wx, Below wc.heap.size wc wx → Calls Tryd.prog 17 #[.slice A1 nL c1, .slice AK1 kn1 ck1, .int .i64 (Bn : Int)] wx (TellsOut (ansR D K1) (leftK D K1) wx) from fun wx hb => by rw [HNL.out, HKN1.out, ← HSt.out.B]; exact tells_any HSt.out.ok HAE.out (HR5.out.below hb) (HKx.out.below hb) (by rw [← HKN1.out]; exact HKCx.out) HP1.out.kl)
                clear y0 y1 y2
                obtain ⟨y0, y1, y2⟩ := facts3 HX5.out
                generalize ansR D K1 = r at HST HTL HAS
                generalize leftK D K1 = lk at HST HTL
                obtain ⟨rk, rz, rt, rks⟩ := r
                have HAS2 := Lib.hid (show rks.length ≤ K1.length ∧ 0 ≤ rz ∧ rz ≤ 5 from HAS.out)
                clear HAS
                have HT2 := Lib.hid (fun wx (hb : Below wc.heap.size wc wx) => Calls.mono (HTL.out wx hb) (fun e w' h => tout_of h))
                clear HTL
                go_upto_region 30 with fail
                go_cut [18, 19] (fun s18 s19 wx => ∃ (b18 : Nat) (A6 : Option Addr) (n6 c6 : Nat) (A7 : Option Addr) (kn7 c7 : Nat), s18 = .pointer (some ⟨b18, 0, none⟩) ∧ s19 = .slice A7 kn7 c7 ∧ RowKit.Hid (wx.heap[b18]? = some (.cells #[.int .i64 rk, .int .i64 rz, .string rt, .slice A6 n6 c6] 41 (0, 0))) ∧ RowKit.Hid (RdK wx A6 rks) ∧ RowKit.Hid (n6 = rks.length) ∧ RowKit.Hid (Rd wx A7 lk) ∧ RowKit.Hid (kn7 = lk.length) ∧ RowKit.Hid (kn7 ≤ c7) ∧ RowKit.Hid (Below wc.heap.size wc wx))
                case first =>
                  go_wp2_with ((go_at_call 17; refine Calls.mono (HT2.out _ (Below.refl _ _)) ?_; (rintro e w6 ⟨A6, n6, c6, A7, kn7, c7, rfl, HN6, HN7, HRK, HRL, HLC, HB6⟩)))
                  go_meet
                  have ba := (Below.refl w6.heap.size w6).alloc (Nat.le_refl _) (.cells #[.int .i64 rk, .int .i64 rz, .string rt, .slice A6 n6 c6] 41)
                  exact ⟨_, A6, n6, c6, A7, kn7, c7, rfl, rfl, Lib.hid (heap_alloc_new w6 _), Lib.hid (HRK.out.below ba), HN6, Lib.hid (HRL.out.below ba), HN7, Lib.hid (by rw [HN7.out]; exact HLC.out), Lib.hid (HB6.out.alloc HB6.out.size _)⟩
                case rest =>
                  obtain ⟨b18, A6, n6, c6, A7, kn7, c7, rfl, rfl, HX18, HRK, HN6, HRL, HN7, HLC, HB6⟩ := hcut
                  obtain ⟨v0, v1, v2, v3⟩ := facts4 HX18.out
                  clear y0 y1 y2
                  have HS6 := Lib.hid (HS5.out.below HB6.out)
                  have HX6 := Lib.hid (keep_block HB6.out HX5.out)
                  go_wp2_with ((go_at_call 12; rw [HN6.out]; go_loud (refine Calls.mono (HS6.out.ans ⟨rk, rz, rt, rks⟩ A6 c6 HRK.out (show rks.length ≤ 8796093022000 by have := HAS2.out; have := HP1.out.kl; omega) (show -9223372036854775808 ≤ rz ∧ rz ≤ 9223372036854775807 by have := HAS2.out; omega) HST.out.2.2.1) ?_); (rintro e w7 ⟨rfl, HS7, HRd7, HKp7⟩)))
                  have hst := HST.out
                  refine ⟨⟨_, lk, A7, kn7, c7, calls + 1, (D.dn : Int), rfl, by go_num, rfl, HN7, Lib.hid (by omega), HS7, Lib.hid ⟨hst.2.1, hst.1, ?_⟩, Lib.hid (HRd7.out _ _ HRL.out), HLC, Lib.hid (by have := HCO1.out; have := hst.2.2.2.1; omega), Lib.hid (HKp7.out _ _ _ _ HX6.out (by decide))⟩, by have := HCO1.out; have := hst.2.2.2.1; simp [intOf]; omega⟩
                  rcases hst.2.2.2.2 with ⟨h1, h2, h3⟩ | ⟨h1, h2⟩
                  · exact .inr ⟨by rw [h1], h2, h3⟩
                  · exact .inl ⟨by rw [h2]; omega, h1⟩
            · have hde : D.dn = l.length := by have h1 := HSt.out.ok.dn; rw [HSt.out.pl] at h1; omega
              have HDE := Lib.hid hde
              clear hde
              have hcb : decide ((calls : Int) ≤ (PM : Int)) = true := by simpa using hcalls
              go_wp2_with (first
                | (go_at_call 16; refine Calls.mono (HSt.out.left 0 (by rw [HDE.out]; omega)) ?_; (rintro e w1 ⟨rfl, hb1⟩; have HS1 := Lib.hid (HSt.out.below hb1); clear hb1))
                | (go_at_call 8; refine Calls.mono (alive_is _ (HT.out.keep HS1.out.bl)) ?_; (rintro e w2 ⟨rfl, hb2⟩; have HS2 := Lib.hid (HS1.out.below hb2); clear hb2))
                | (go_at_call 18; refine Calls.mono HS2.out.fails ?_; (rintro e w3 ⟨rfl, hb3⟩; have HS3 := Lib.hid (HS2.out.below hb3); clear hb3)))
              go_ret
              exact ⟨rfl, HS3.out.bl⟩
  · have h0b : (E == 0) = false := by simp [h0]
    have h0c : (E != 0) = true := by simp [h0]
    obtain ⟨x0, x1, x2⟩ := facts3 HX0.out
    go_enter Tryd.func7, Tryd.ntmps7
    go_wp2_with (first
      | (go_at_call 9; refine Calls.mono (new_no (HA.out.below HBW0.out) HC.out HCM.out HE.out h0) ?_; (rintro e w1 ⟨rfl, hb1⟩; have HB1 := Lib.hid (HBW0.out.trans (hb1.mono HBW0.out.size)); have hzz1 := HB1.out.size; clear x0 x1 x2 hb1))
      | (go_at_call 8; refine Calls.mono (alive_is _ (HT.out.keep HB1.out)) ?_; rintro e w3 ⟨rfl, hb3⟩))
    go_ret
    exact ⟨rfl, HB1.out.trans (hb3.mono hzz1)⟩
end Go.Proofs.YtdfijefgklhmdaaDoor.T
