import Derived.Deep.DeepCutAuto
import Derived.Laws.OwnMore
import Derived.OwnWalk
import Derived.Lib.AppendStr
import Derived.Lib.SliceRun
import Derived.Lib.SmallJoins
import Derived.IntWalk
import Derived.WalkMore
import Derived.Lib.OthersKept
import Derived.Deep.LoopGhost
import Derived.Deep.RegionLaw
import Derived.Deep.AppendLies
import Derived.Test.YtfdcacjfngjmdaaDoorProg
import Derived.Test.YtfdcacjfngjmdaaDoorMem
import Derived.Test.YtfdcacjfngjmdaaDoorBlk
import Derived.Test.YtfdcacjfngjmdaaDoorAp
import Derived.Test.YtfdcacjfngjmdaaDoorDy
import Derived.WalkKit
import Derived.Outline
import Derived.WalkLawsBesides
import Derived.Deep.QuietTactic
import Derived.BigQuiet
import Derived.Lib.Hide
import Derived.Handy
import Derived.Deep.RegionHeld3
import Derived.Deep.DrawnRows
import Derived.KernelRfl
import Derived.Great.Walk
import Derived.Test.YtfdcacjfngjmdaaDoorOwn
namespace Go.Proofs.YtfdcacjfngjmdaaDoor.T
open Go Go.RowKit Go.Sort Mem Own
set_option maxRecDepth 100000
set_option maxHeartbeats 1000000
set_option linter.unusedVariables false
set_option linter.unusedSimpArgs false

theorem sw_perm (l : List ByteArray) (i k : Nat) (h1 : i < l.length) (h2 : k < l.length) : ((l.set i l[k]).set k l[i]).Perm l := List.set_set_perm h1 h2
/-- DictOrder. -/
theorem order_is (A C : Option Addr) (l : List ByteArray) (os : List Int) (c c2 : Nat) (w : World) (ha : Rd w A l) (hb : RdZ w C os) (hs : ∀ x ∈ l, x.size ≤ 1000000000000000) (hn : l.length ≤ maxLen) (hn2 : os.length ≤ maxLen) (hh : Hv w) :
    Calls Tryd.prog 5 #[.slice A l.length c, .slice C os.length c2] w fun e w' => e = .returned (.bool true) ∧ Below w.heap.size w w' := by
  have h0 : 0 < w.heap.size := lt_of_cell (hh 0 (by decide))
  have HNW := Lib.hid (newS_is w.heap.size (fun _ => (0, 0, 0)) w (Nat.le_refl _))
  have HNW2 := Lib.hid (fun (ow : Ow) (wx : World) (h : w.heap.size ≤ wx.heap.size) => newS_is w.heap.size ow wx h)
  have HH := Lib.hid hh
  have HA := Lib.hid ha
  have HC := Lib.hid hb
  have HS := Lib.hid hs
  obtain ⟨L, hL⟩ : ∃ L, L = l.length := ⟨_, rfl⟩
  obtain ⟨O, hO⟩ : ∃ O, O = os.length := ⟨_, rfl⟩
  have hL1 : L ≤ 9223372036854775807 := by rw [hL]; exact hn
  have hO1 : O ≤ 9223372036854775807 := by rw [hO]; exact hn2
  have HLL := Lib.hid hL
  have HOL := Lib.hid hO
  have HAL := Lib.hid (fun (wx : World) (hb : Below w.heap.size w wx) => alive_is wx (HH.out.keep hb h0))
  rw [← hL, ← hO]
  clear hh ha hb hs hL hO hn hn2
  go_enter Tryd.func5, Tryd.ntmps5
  go_upto_region 2 with (first
    | ((fail_if_success (have := HD1)); go_at_call 9; refine Calls.mono HNW.out ?_; rintro e w1 ⟨g, b1, ow1, rfl, hg, hd1, hc1⟩; have HD1 := Lib.hid hd1; have HC1 := Lib.hid hc1; have hz1 := hc1.below.size; clear hd1 hc1)
    | (go_at_call 9; refine Calls.mono (HNW2.out ow1 _ hz1) ?_; rintro e w2 ⟨g2, b2, ow2, rfl, hg2, hd2, hc2⟩; have HE2 := Lib.hid hd2.owc; have HD2 := Lib.hid ((HD1.out.other hc2 (by have := lt_of_blk HD1.out.blk; omega)).owc); have HC2 := Lib.hid (HC1.out.below.trans hc2.below); have hgg : g ≠ g2 := (by have := lt_of_blk HD1.out.blk; omega); clear hd2 hc2))
  clear HNW HNW2 HD1 HC1
  have hz2 := HC2.out.size
  by_cases hbig : L > 300
  · have hd2 : (300 : Int) < (L : Int) := by omega
    go_wp2_with (go_at_call 10; refine Calls.mono (HAL.out _ HC2.out) ?_; rintro e w3 ⟨rfl, hb2⟩; have HB2 := Lib.hid (HC2.out.trans (hb2.mono hz2)); clear hb2)
    go_ret
    exact ⟨rfl, HB2.out⟩
  have hd2 : ¬ (300 : Int) < (L : Int) := by omega
  have hL3 : L ≤ 300 := by omega
  obtain ⟨ow3, hw3⟩ : ∃ o, o = owc ow2 w2.heap.size := ⟨_, rfl⟩
  have hfree : ∀ q, w2.heap.size ≤ q → (ow3 q).1 = 0 := fun q hq => by rw [hw3]; unfold owc; rw [if_neg (by omega)]
  rw [← hw3] at HE2 HD2
  have HFR := Lib.hid hfree
  clear hw3 hfree hbig
  have HD2B := Lib.hid HD2.out.base
  go_upto_region 4 with fail
  go_cut [7] (fun s7 wx => RowKit.Hid (Free wx w2.heap.size ow3 s7 l) ∧ RowKit.Hid (Below w2.heap.size w2 wx))
  case first =>
    have hfr : ∀ (wx : World) (v : Value) , wx.ownsRow w2.heap.size 9 1 v l.length (vs l) → RowKit.Hid (Free wx w2.heap.size ow3 v l) := fun wx v h => Lib.hid ⟨h, fun q hq => HFR.out q (h.lt q hq).1⟩
    have HF := Lib.hid hfr
    clear hfr
    cases A with
    | none =>
      have hl0 : l = [] := by
        rcases HA.out with h | ⟨b, off, h, _⟩
        · exact h
        · cases h
      obtain rfl : L = 0 := by rw [HLL.out, hl0]; rfl
      have HL0 := Lib.hid hl0
      clear hl0
      go_wp2_with fail
      go_meet
      refine ⟨HF.out _ _ ?_, Lib.hid (by ((repeat (first | exact Below.refl _ _ | (refine Below.drew ?_) | (refine Go.below_drewN ?_ _) | (refine Below.alloc ?_ (by first | (simp; done) | omega | (simp; omega)) _) | (refine Below.setCell ?_ (by first | (simp; done) | omega | (simp; omega)) _) | (refine Below.trans ?_ (Below.mono (by assumption) (by first | (simp; done) | omega | (simp; omega)))))); done))⟩
      rw [HL0.out]
      exact World.ownsRow_made w2 #[] 0 (Nat.le_refl _) (Nat.zero_le _) (by simp)
    | some a =>
      obtain ⟨i0, hi, hy0, hy1, hy2⟩ := info_parts info9
      have HRD := Lib.hid (HA.out.below HC2.out)
      go_wp2_with (at_builtin; refine wpList_append_own _ rfl (.tmp 37) (.tmp 38) 22 rfl w2.heap.size 9 i0 _ 1 16 Tryd.underlying22 hi hy0 hy1 hy2 rfl (by decide) _ 0 [] rfl (World.ownsRow_made w2 #[] 0 (Nat.le_refl _) (Nat.zero_le _) (by simp)) a L c (vs l) rfl ?qc1 ?qc2 ?qc3 ?qc4 ?qc5 (by simp) ?_)
      case qc1 => rw [HLL.out]; simp [vs]
      case qc2 =>
        intro j u hj
        simp only [vs, List.getElem?_map, Option.map_eq_some_iff] at hj
        obtain ⟨x, hx, rfl⟩ := hj
        rcases HRD.out.alloc (.cells #[] 9) with h | ⟨b, off, e, h⟩
        · rw [h] at hx; simp at hx
        · injection e with e
          rw [e, Addr.add_lit]; exact h j x hx
      case qc3 => intro u hu; simp [vs] at hu; obtain ⟨x, -, rfl⟩ := hu; rfl
      case qc4 => unfold maxLen; omega
      case qc5 => omega
      intro v1 w4 hown hg _
      go_wp2_with fail
      go_meet
      refine ⟨HF.out _ _ (by rw [← HLL.out]; simpa using hown), Lib.hid (((Below.refl _ _).alloc (Nat.le_refl _) _).grown hg (by simp) (by intro k hk; simp [Value.ownBlock] at hk; omega))⟩
  case rest =>
    obtain ⟨HF, HB⟩ := hcut
    obtain ⟨A7, c7, rfl⟩ := own_slice HF.out.own
    rw [← HLL.out]
    go_wp2_with fail
    go_loopw [42] (fun s42 wr => ∃ (i : Nat) (l2 : List ByteArray), i ≤ O ∧ s42 = .int .i64 i ∧ RowKit.Hid (l2.Perm l) ∧ RowKit.Hid (Free wr w2.heap.size ow3 (.slice A7 L c7) l2) ∧ RowKit.Hid (Below w2.heap.size w2 wr)) (fun s42 _ => O - (intOf s42).toNat)
    case atStart => exact ⟨0, l, Nat.zero_le _, rfl, Lib.hid (List.Perm.refl _), Lib.hid (by rw [HLL.out]; exact HF.out), HB⟩
    case round =>
      obtain ⟨i, l2, hiO, rfl, HP, HF2, HB2⟩ := hrel
      have hzr := HB2.out.size
      have hl2 : l2.length = L := by rw [HP.out.length_eq, HLL.out]
      have HL2 := Lib.hid hl2
      clear hl2
      by_cases hlt : i < O
      · have hiI : (i : Int) < (O : Int) := by omega
        have hlt2 := Lib.hid (show i < os.length by rw [← HOL.out]; exact hlt)
        obtain ⟨b9, o9, rfl⟩ := HC.out.addr (by have := hlt2.out; omega)
        have q1 := (HC.out.below (HC2.out.trans (HB2.out.mono hz2))).cell hlt2.out
        generalize os[i]'hlt2.out = z at q1
        by_cases h1 : i < L
        · have h1I : (i : Int) < (L : Int) := by omega
          have h1d : decide ((i : Int) < (L : Int)) = true := decide_eq_true h1I
          by_cases h2 : 0 ≤ z
          · have h2d : decide (z ≥ 0) = true := decide_eq_true h2
            by_cases h3 : z < (L : Int)
            · obtain ⟨k, rfl⟩ : ∃ k : Nat, z = (k : Int) := ⟨z.toNat, by omega⟩
              have h3d : decide ((k : Int) < (L : Int)) = true := decide_eq_true h3
              have hkL : k < L := by omega
              have how : wr.ownsRow w2.heap.size 9 1 (.slice A7 L c7) L (vs l2) := by have := HF2.out.own; rw [HL2.out] at this; exact this
              obtain ⟨b7, cp7, e7, hb7, -⟩ := how.form (by omega)
              injection e7 with e7 e8 e9
              subst e7
              have HOW := Lib.hid how
              clear how e8 e9
              have r1 := HOW.out.cellAt i (by omega)
              have r2 := HOW.out.cellAt k (by omega)
              have f1 := HOW.out.frozenAt i
              have f2 := HOW.out.frozenAt k
              have hx1 : (vs l2)[i]? = some (.string (l2[i]'(by rw [HL2.out]; exact h1))) := by simp [vs, HL2.out, h1]
              have hx2 : (vs l2)[k]? = some (.string (l2[k]'(by rw [HL2.out]; exact hkL))) := by simp [vs, HL2.out, hkL]
              rw [hx1] at r1
              rw [hx2] at r2
              have HSW := Lib.hid (sw_perm l2 i k (by rw [HL2.out]; exact h1) (by rw [HL2.out]; exact hkL))
              have hvs : ∀ x y : ByteArray, ((vs l2).set i (.string x)).set k (.string y) = vs ((l2.set i x).set k y) := fun x y => by simp [vs, List.map_set]
              have HVS := Lib.hid hvs
              clear hx1 hx2 hvs
              generalize l2[i]'(by rw [HL2.out]; exact h1) = x at r1 HSW
              generalize l2[k]'(by rw [HL2.out]; exact hkL) = y at r2 HSW
              go_upto_region 9 with fail
              have f1' : (wr.setCell ⟨b7, i, none⟩ (.string y)).frozen? ⟨b7, k, none⟩ = false := by rw [World.frozen?_setCell]; exact f2
              have hsome : ∃ u, (wr.setCell ⟨b7, i, none⟩ (.string y)).cell? ⟨b7, k, none⟩ = some u := by
                by_cases e : i = k
                · subst e; exact ⟨_, World.cell?_setCell_same _ _ _ r1⟩
                · exact ⟨_, (World.cell?_setCell_other _ _ _ _ (by simp [e])).trans r2⟩
              obtain ⟨u, hu⟩ := hsome
              go_region_law (fail)
              all_goals
                go_wp2_with fail
                have h4 := ((HOW.out.stored i (.string y)).1.stored k (.string x)).1
                rw [HVS.out] at h4
                have hp4 := HSW.out.trans HP.out
                have hl4 : ((l2.set i y).set k x).length = L := by rw [List.length_set, List.length_set]; exact HL2.out
                exact ⟨⟨i + 1, (l2.set i y).set k x, by omega, by go_num, Lib.hid hp4, Lib.hid (Free.below ⟨by rw [hl4]; exact h4, HF2.out.free⟩ (Below.refl _ _).drew), Lib.hid (((HB2.out.setCell (p := ⟨b7, i, none⟩) hb7 _).setCell (p := ⟨b7, k, none⟩) hb7 _).drew)⟩, by simp [intOf]; omega⟩
            · have h3d : decide (z < (L : Int)) = false := decide_eq_false h3
              go_wp2_with fail
              exact ⟨⟨i + 1, l2, by omega, by go_num, HP, HF2, HB2⟩, by simp [intOf]; omega⟩
          · have h2d : decide (z ≥ 0) = false := decide_eq_false h2
            have h2I : ¬ z ≥ 0 := h2
            go_wp2_with fail
            exact ⟨⟨i + 1, l2, by omega, by go_num, HP, HF2, HB2⟩, by simp [intOf]; omega⟩
        · have h1I : ¬ (i : Int) < (L : Int) := by omega
          have h1d : decide ((i : Int) < (L : Int)) = false := decide_eq_false h1I
          go_wp2_with fail
          exact ⟨⟨i + 1, l2, by omega, by go_num, HP, HF2, HB2⟩, by simp [intOf]; omega⟩
      · obtain rfl : i = O := by omega
        have HD3 := Lib.hid (HD2.out.below HB2.out)
        have HE3 := Lib.hid (HE2.out.below HB2.out)
        have HW3 := Lib.hid (HC2.out.trans (HB2.out.mono hz2))
        have HSZ := Lib.hid (show ∀ x ∈ l2, x.size ≤ 1000000000000000 from fun x hx => HS.out x (HP.out.mem_iff.1 hx))
        have HMO := Lib.hid (mo_is (l := l) fun x hx => by have := HS.out x hx; unfold maxLen; omega)
        have HMO2 := Lib.hid (mo_is (l := l2) fun x hx => by have := HSZ.out x hx; unfold maxLen; omega)
        clear HF HB HD2 HE2 hlt hiO HFR HD2B HOL hO1
        go_wp2_with fail
        go_loopw [78] (fun s78 wr2 => ∃ (j : Nat) (ow5 : Ow) (gn1 go1 gn2 go2 : Nat) (nv1 ov1 nv2 ov2 : List Value), j ≤ L ∧ s78 = .int .i64 j ∧ RowKit.Hid (DR wr2 w.heap.size 64 70 69 g ow5 (mo (l.take j)) gn1 go1 nv1 ov1) ∧ RowKit.Hid (DR wr2 w.heap.size 64 70 69 g2 ow5 (mo (l2.take j)) gn2 go2 nv2 ov2) ∧ RowKit.Hid (Free wr2 w2.heap.size ow5 (.slice A7 L c7) l2) ∧ RowKit.Hid (Below w.heap.size w wr2)) (fun s78 _ => L - (intOf s78).toNat)
        case atStart => exact ⟨0, ow3, b1, 0, b2, 0, _, _, _, _, Nat.zero_le _, rfl, HD3, HE3, HF2, HW3⟩
        case round =>
          obtain ⟨j, ow5, gn1, go1, gn2, go2, nv1, ov1, nv2, ov2, hjL, rfl, HDR, HER, HFR, HW⟩ := hrel
          have hzr5 := HW.out.size
          by_cases hlt : j < L
          · have hjI : (j : Int) < (L : Int) := by omega
            have hlt1 := Lib.hid (show j < l.length by rw [← HLL.out]; exact hlt)
            have hlt2 := Lib.hid (show j < l2.length by rw [HL2.out]; exact hlt)
            obtain ⟨b0, o0, rfl⟩ := HA.out.addr (by have := hlt1.out; omega)
            have HQ1 := Lib.hid (fun (wx : World) (hb : Below w.heap.size w wx) => (HA.out.below hb).cell hlt1.out)
            obtain ⟨b7, o7, rfl⟩ := HFR.out.rd.addr (by have := hlt2.out; omega)
            have HQ2 := Lib.hid (fun (wx : World) (ow6 : Ow) (hf : Free wx w2.heap.size ow6 (.slice (some ⟨b7, o7, none⟩) L c7) l2) => hf.rd.cell hlt2.out)
            have hs1 := HS.out _ (List.getElem_mem hlt1.out)
            have hs2 := HSZ.out _ (List.getElem_mem hlt2.out)
            have HM1 := Lib.hid (mo_step hlt1.out)
            have HM2 := Lib.hid (mo_step hlt2.out)
            generalize l[j]'hlt1.out = s at HQ1 hs1 HM1
            generalize l2[j]'hlt2.out = u at HQ2 hs2 HM2
            have HI1 := Lib.hid (HMO.out j (by rw [← HLL.out]; exact hjL)).1
            have HI2 := Lib.hid (HMO2.out j (by rw [HL2.out]; exact hjL)).1
            have HP1 := Lib.hid (fun (wx : World) (hd : DR wx w.heap.size 64 70 69 g ow5 (mo (l.take j)) gn1 go1 nv1 ov1) (hv : Hv wx) => putS_is w.heap.size g gn1 go1 j ow5 _ nv1 ov1 s (vv s) wx hd HI1.out HI1.out.step (by omega) (by omega) hv h0)
            have HP2 := Lib.hid (fun (ow6 : Ow) (wx : World) (hd : DR wx w.heap.size 64 70 69 g2 ow6 (mo (l2.take j)) gn2 go2 nv2 ov2) (hv : Hv wx) => putS_is w.heap.size g2 gn2 go2 j ow6 _ nv2 ov2 u (vv u) wx hd HI2.out HI2.out.step (by omega) (by omega) hv h0)
            have q1 := HQ1.out wr HW.out
            unfold vv at HP1 HP2
            have hcs1 : ¬ 9223372036854775807 < 1 + s.size := by omega
            have hcs2 : ¬ 9223372036854775807 < 1 + u.size := by omega
            go_upto_region 14 with fail
            go_region_held3 (fun w' => w'.cell? ⟨b0, o0 + j, none⟩ = some (.string s)) (first | exact u0 | exact q1 | (simpa [go_sem] using q1))
              (first
                | (go_at_call 11; refine Calls.mono (HP1.out _ (HDR.out.below (Below.refl _ _).drew) ((HH.out.keep HW.out h0).below (Below.refl _ _).drew)) ?_; rintro e w6 ⟨rfl, ow6, gn6, go6, nv6, ov6, hd6, hc6⟩; have HD6 := Lib.hid hd6; have hc6' := (Chg.of_below (g := g) (ow := ow5) (Below.refl wr.heap.size wr).drew hzr5).trans hc6; have HE6 := Lib.hid (HER.out.other hc6' (fun e => hgg e.symm)); have HF6 := Lib.hid (HFR.out.chg hc6'); have HW6 := Lib.hid (HW.out.trans hc6'.below); have u0 := HQ1.out _ HW6.out; clear hd6 hc6 hc6'))
            have q2 := HQ2.out _ _ HF6.out
            go_upto_region 15 with fail
            go_region_held3 (fun w' => w'.cell? ⟨b7, o7 + j, none⟩ = some (.string u)) (first | exact u2 | exact q2 | (simpa [go_sem] using q2))
              (first
                | (go_at_call 11; refine Calls.mono (HP2.out _ _ (HE6.out.below (Below.refl _ _).drew) ((HH.out.keep HW6.out h0).below (Below.refl _ _).drew)) ?_; rintro e w7 ⟨rfl, ow7, gn7, go7, nv7, ov7, hd7, hc7⟩; have HE7 := Lib.hid hd7; have hc7' := (Chg.of_below (g := g2) (ow := ow6) (Below.refl w6.heap.size w6).drew HW6.out.size).trans hc7; have HD7 := Lib.hid (HD6.out.other hc7' hgg); have HF7 := Lib.hid (HF6.out.chg hc7'); have HW7 := Lib.hid (HW6.out.trans hc7'.below); have u2 := HQ2.out _ _ HF7.out; clear hd7 hc7 hc7'))
            go_wp2_with fail
            exact ⟨⟨j + 1, ow7, gn6, go6, gn7, go7, nv6, ov6, nv7, ov7, by omega, by go_num, Lib.hid (by rw [HM1.out]; exact HD7.out), Lib.hid (by rw [HM2.out]; exact HE7.out), HF7, HW7⟩, by simp [intOf]; omega⟩
          · obtain rfl : j = L := by omega
            have htl1 : l.take j = l := List.take_of_length_le (by rw [← HLL.out]; exact Nat.le_refl _)
            have htl2 : l2.take j = l2 := List.take_of_length_le (by rw [HL2.out]; exact Nat.le_refl _)
            rw [htl1] at HDR
            rw [htl2] at HER
            have HMA := Lib.hid (mo_all (l := l) fun x hx => by have := HS.out x hx; unfold maxLen; omega)
            have HMB := Lib.hid (mo_all (l := l2) fun x hx => by have := HSZ.out x hx; unfold maxLen; omega)
            have HPM := Lib.hid (mo_perm HP.out fun x hx => by have := HS.out x hx; unfold maxLen; omega)
            have hKB : l2.length ≤ 1000000000 := by rw [HL2.out]; omega
            have hKA : l.length ≤ 1000000000 := by rw [← HLL.out]; omega
            have HKA := Lib.hid hKA
            have HKB := Lib.hid hKB
            clear htl1 htl2 HMO HMO2 HD3 HE3 HF2 HW3 HFR hlt hKA hKB
            go_wp2_with fail
            go_loopw [106] (fun s106 wr3 => ∃ k : Nat, k ≤ j ∧ s106 = .int .i64 k ∧ RowKit.Hid (DR wr3 w.heap.size 64 70 69 g ow5 (mo l) gn1 go1 nv1 ov1) ∧ RowKit.Hid (DR wr3 w.heap.size 64 70 69 g2 ow5 (mo l2) gn2 go2 nv2 ov2) ∧ RowKit.Hid (Below w.heap.size w wr3)) (fun s106 _ => j - (intOf s106).toNat)
            case atStart => exact ⟨0, Nat.zero_le _, rfl, HDR, HER, HW⟩
            case round =>
              obtain ⟨k, hkL, rfl, HDR3, HER3, HW3⟩ := hrel
              have hzr6 := HW3.out.size
              by_cases hlt : k < j
              · have hkI : (k : Int) < (j : Int) := by omega
                have hlt1 := Lib.hid (show k < l.length by rw [← HLL.out]; exact hlt)
                obtain ⟨b0, o0, rfl⟩ := HA.out.addr (by have := hlt1.out; omega)
                have q1 := (HA.out.below HW3.out).cell hlt1.out
                have hs1 := HS.out _ (List.getElem_mem hlt1.out)
                have hgt := HPM.out.2.2 _ (List.getElem_mem hlt1.out)
                generalize l[k]'hlt1.out = s at q1 hs1 hgt
                have HG := Lib.hid (fun (wx : World) (hd : DR wx w.heap.size 64 70 69 g2 ow5 (mo l2) gn2 go2 nv2 ov2) (hv : Hv wx) => getS_is w.heap.size g2 gn2 go2 _ ow5 _ nv2 ov2 s wx hd HMB.out.1 HKB.out (by omega) hv)
                rw [hgt] at HG
                unfold vv at HG
                have hcs1 : ¬ 9223372036854775807 < 1 + s.size := by omega
                clear hgt
                go_wp2_with (go_at_call 12; refine Calls.mono (HG.out _ HER3.out (HH.out.keep HW3.out h0)) ?_; rintro e w6 ⟨rfl, hb6⟩; have HD6 := Lib.hid (HDR3.out.below hb6); have HE6 := Lib.hid (HER3.out.below hb6); have HW6 := Lib.hid (HW3.out.trans (hb6.mono hzr6)); clear hb6)
                exact ⟨⟨k + 1, by omega, by go_num, HD6, HE6, HW6⟩, by simp [intOf]; omega⟩
              · obtain rfl : k = j := by omega
                have HN1 := Lib.hid (fun (wx : World) (hd : DR wx w.heap.size 64 70 69 g ow5 (mo l) gn1 go1 nv1 ov1) => namesS_is w.heap.size g gn1 go1 _ ow5 _ nv1 ov1 wx hd HMA.out.1 HKA.out)
                have HN2 := Lib.hid (fun (wx : World) (hd : DR wx w.heap.size 64 70 69 g2 ow5 (mo l2) gn2 go2 nv2 ov2) => namesS_is w.heap.size g2 gn2 go2 _ ow5 _ nv2 ov2 wx hd HMB.out.1 HKB.out)
                have HL1 := Lib.hid (fun (wx : World) (hd : DR wx w.heap.size 64 70 69 g ow5 (mo l) gn1 go1 nv1 ov1) => lenS_is w.heap.size g gn1 go1 ow5 _ nv1 ov1 wx hd)
                have HL2' := Lib.hid (fun (wx : World) (hd : DR wx w.heap.size 64 70 69 g2 ow5 (mo l2) gn2 go2 nv2 ov2) => lenS_is w.heap.size g2 gn2 go2 ow5 _ nv2 ov2 wx hd)
                obtain ⟨e1, e2, -⟩ := HPM.out
                have hnl : (srt (mo l).names).length < 2 ^ 62 := by rw [srt_len, names_len HMA.out.1]; have h1 := HMA.out.1.mK; have h2 := HKA.out; omega
                rw [← e1] at HN2
                rw [← e2] at HL2'
                generalize (mo l).many = M at HL1 HL2'
                generalize srt (mo l).names = N at HN1 HN2 hnl
                have HSM := Lib.hid (fun (A B : Option Addr) (ca cb : Nat) (wx : World) (ha : Rd wx A N) (hb : Rd wx B N) => (by
                  have := same_is A B N N ca cb wx ha hb hnl hnl
                  rw [decide_eq_true (rfl : N = N)] at this; exact this : Calls Tryd.prog 21 #[.slice A N.length ca, .slice B N.length cb] wx fun e w' => e = .returned (.bool true) ∧ Below wx.heap.size wx w'))
                clear e1 e2 HPM HMA HMB HDR HER HW hnl HP HSZ
                generalize mo l = m1 at HDR3 HN1 HL1
                generalize mo l2 = m2 at HER3 HN2 HL2'
                generalize N.length = NL at HN1 HN2 HSM
                go_wp2_with (first
                  | (go_at_call 10; refine Calls.mono (HAL.out _ HW3.out) ?_; rintro e w4 ⟨rfl, hb4⟩; have HD4 := Lib.hid (HDR3.out.below hb4); have HE4 := Lib.hid (HER3.out.below hb4); have HW4 := Lib.hid (HW3.out.trans (hb4.mono hzr6)); have hz4 := HW4.out.size; clear hb4)
                  | ((fail_if_success (have := HD5)); go_at_call 22; refine Calls.mono (HN1.out _ HD4.out) ?_; rintro e w5 ⟨A5, c5, rfl, hr5, hb5⟩; have HR5 := Lib.hid hr5; have HD5 := Lib.hid (HD4.out.below hb5); have HE5 := Lib.hid (HE4.out.below hb5); have HW5 := Lib.hid (HW4.out.trans (hb5.mono hz4)); have hz5 := HW5.out.size; clear hb5 hr5)
                  | (go_at_call 22; refine Calls.mono (HN2.out _ HE5.out) ?_; rintro e w6 ⟨A6, c6, rfl, hr6, hb6⟩; have HR6 := Lib.hid hr6; have HR5' := Lib.hid (HR5.out.below hb6); have HD6 := Lib.hid (HD5.out.below hb6); have HE6 := Lib.hid (HE5.out.below hb6); have HW6 := Lib.hid (HW5.out.trans (hb6.mono hz5)); have hz6 := HW6.out.size; clear hb6 hr6)
                  | (go_at_call 21; refine Calls.mono (HSM.out _ _ _ _ _ HR5'.out HR6.out) ?_; rintro e w7 ⟨rfl, hb7⟩; have HD7 := Lib.hid (HD6.out.below hb7); have HE7 := Lib.hid (HE6.out.below hb7); have HW7 := Lib.hid (HW6.out.trans (hb7.mono hz6)); clear hb7)
                  | ((fail_if_success (have := HX8)); go_at_call 23; refine Calls.mono (HL1.out _ HD7.out) ?_; rintro e w8 ⟨rfl, rfl⟩; have HX8 := Lib.hid trivial)
                  | (go_at_call 23; refine Calls.mono (HL2'.out _ HE7.out) ?_; rintro e w9 ⟨rfl, rfl⟩))
                go_ret
                exact ⟨rfl, HW7.out⟩
end Go.Proofs.YtfdcacjfngjmdaaDoor.T
