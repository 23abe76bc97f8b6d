import Derived.Deep.DeepCutAuto
import Derived.Laws.OwnMore
import Derived.OwnWalk
import Derived.Lib.AppendStr
import Derived.Lib.SliceRun
import Derived.Lib.SmallJoins
import Derived.IntWalk
import Derived.Lib.ItoaLen
import Derived.WalkMore
import Derived.Lib.AtoiAllCases
import Derived.Lib.OthersKept
import Derived.Laws.Runes
import Derived.Deep.LoopGhost
import Derived.Deep.RegionLaw
import Derived.Deep.AppendLies
import Derived.Test.YteghfinngilfgaaDoorProg
import Derived.Test.YteghfinngilfgaaDoorMem
import Derived.Test.YteghfinngilfgaaDoorZj
import Derived.Test.YteghfinngilfgaaDoorZe
import Derived.WalkKit
import Derived.Outline
import Derived.WalkLawsBesides
import Derived.Deep.QuietTactic
import Derived.BigQuiet
import Derived.Lib.Hide
import Derived.Handy
import Derived.Deep.RegionHeld3
import Derived.Deep.DrawnRows
import Derived.KernelRfl
import Derived.Great.Walk
import Derived.Test.YteghfinngilfgaaDoorOwn
namespace Go.Proofs.YteghfinngilfgaaDoor.T
open Go Go.RowKit Go.Sort Mem Own
set_option maxRecDepth 100000
set_option maxHeartbeats 1000000
set_option linter.unusedVariables false
set_option linter.unusedSimpArgs false

theorem rout_none {e : Ending} (h : REout none e) : ∃ s, e = .returned (.tuple #[.string s, .bool false]) := by
  obtain ⟨s, ok, rfl, ⟨-, rfl⟩ | ⟨h, -⟩⟩ := h
  · exact ⟨s, rfl⟩
  · cases h
theorem rout_some {a : List UInt8} {e : Ending} (h : REout (some a) e) : ∃ s : ByteArray, e = .returned (.tuple #[.string s, .bool true]) ∧ s.toList = a := by
  obtain ⟨s, ok, rfl, ⟨h, -⟩ | ⟨h, rfl⟩⟩ := h
  · cases h
  · injection h with h; exact ⟨s, rfl, h.symm⟩
def REP (n : Nat) : Prop := ∀ (x : T) (d : Nat) (A : Option Addr) (c : Nat) (w : World), x.sz ≤ n → RdT w A x → Wf x → d ≤ 4 → wt d x ≤ 100000000000000 →
  Calls Tryd.prog 24 #[tV x.k x.z x.t A x.l.length c, .int .i64 d] w fun e w' => REout (enc d x) e ∧ Below w.heap.size w w'
set_option maxHeartbeats 4000000 in
theorem renc_6 (N : Nat) (ih : REP N) (x : T) (d : Nat) (A : Option Addr) (c : Nat) (w : World) (hs : x.sz ≤ N + 1) (hr : RdT w A x) (hwf : Wf x) (hd : d ≤ 4) (hk : x.k = 6) (hbr : bareB x = true) (hm : wt d x ≤ 100000000000000) :
    Calls Tryd.prog 24 #[tV x.k x.z x.t A x.l.length c, .int .i64 d] w fun e w' => REout (enc d x) e ∧ Below w.heap.size w w' := by
  have HP := Lib.hid (fun wx => rbare_is x A c wx)
  rw [hbr] at HP
  have HE := Lib.hid (enc_6 (d := d) hbr hk)
  have HR := Lib.hid hr.rda
  have HLF := Lib.hid hwf.len
  have HWT := Lib.hid (wt_mk d x)
  have HMW := Lib.hid (fun (i : Nat) (r : List UInt8) (h : encs (d + 1) (x.l.take i) = some r) => encs_wt (fun y hy => hwf.mem (List.mem_of_mem_take hy)) h)
  have HMY := Lib.hid (fun (i : Nat) (hi : i < x.l.length) (r : List UInt8) (h : enc (d + 1) x.l[i] = some r) => enc_wt (hwf.mem (List.getElem_mem hi)) h)
  have HI := Lib.hid (fun (i : Nat) (hi : i < x.l.length) (A' : Option Addr) (c' : Nat) (w' : World) (hr' : RdT w' A' x.l[i]) (hd' : d + 1 ≤ 4) (hm' : wt (d + 1) x.l[i] ≤ 100000000000000) => (show Calls Tryd.prog 24 #[tV x.l[i].k x.l[i].z x.l[i].t A' x.l[i].l.length c', .int .i64 ((d : Int) + 1)] w' (fun e w'' => REout (enc (d + 1) x.l[i]) e ∧ Below w'.heap.size w' w'') from ih (x.l[i]) (d + 1) A' c' w' (by have := sz_lt (List.getElem_mem hi : x.l[i] ∈ x.l); omega) hr' (hwf.mem (List.getElem_mem hi)) hd' hm'))
  generalize enc d x = r at HE ⊢
  clear hbr hr hs ih hwf
  have HN := Lib.hid (new1 w #[.int .i64 x.k, .int .i64 x.z, .string x.t, .slice A x.l.length c] 24)
  generalize x.k = k at hk HN HP ⊢
  subst hk
  generalize x.z = z at HN HP ⊢
  generalize x.t = t at HN HP HWT ⊢
  generalize x.l = l at HN HP HE HR HLF HI HWT HMW HMY ⊢
  obtain ⟨L, hL⟩ : ∃ L, L = l.length := ⟨_, rfl⟩
  have HLQ := Lib.hid hL
  have hLF : L ≤ 1000000 := by rw [hL]; exact HLF.out
  rw [← hL] at HN HP ⊢
  clear hL
  have HX0 := Lib.hid HN.out.1
  obtain ⟨x0, x1, x2, x3⟩ := cells4 HX0.out
  by_cases h4 : d = 4
  · have hr : r = none := by rw [HE.out, if_neg (by omega)]
    subst hr h4
    go_enter Tryd.func24, Tryd.ntmps24
    go_wp2_with (go_at_call 30; refine Calls.mono (HP.out _) ?_; (rintro e w1 ⟨rfl, hb1⟩; have HX1 := Lib.hid (keep_blk hb1 HX0.out); have HB1 := Lib.hid (HN.out.2.trans (hb1.mono HN.out.2.size)); clear x0 x1 x2 x3 hb1; obtain ⟨x0, x1, x2, x3⟩ := cells4 HX1.out))
    go_ret2
    exact ⟨reout_no rfl, HB1.out⟩
  have h4b : decide ((4 : Int) ≤ (d : Int)) = false := by simp; omega
  have hd3 : d ≤ 3 := by omega
  by_cases h1 : 1024 < L
  · have hr : r = none := by rw [HE.out, if_neg (by rw [← HLQ.out]; omega)]
    subst hr
    have h1b : decide ((1024 : Int) < (L : Int)) = true := by simp; omega
    go_enter Tryd.func24, Tryd.ntmps24
    go_wp2_with (go_at_call 30; refine Calls.mono (HP.out _) ?_; (rintro e w1 ⟨rfl, hb1⟩; have HX1 := Lib.hid (keep_blk hb1 HX0.out); have HB1 := Lib.hid (HN.out.2.trans (hb1.mono HN.out.2.size)); clear x0 x1 x2 x3 hb1; obtain ⟨x0, x1, x2, x3⟩ := cells4 HX1.out))
    go_ret2
    exact ⟨reout_no rfl, HB1.out⟩
  have h1b : decide ((1024 : Int) < (L : Int)) = false := by simp; omega
  have HE2 := Lib.hid (show r = (encs (d + 1) l).map (fun r => 42 :: (Lib.itoa (l.length : Int) ++ (crlf ++ r))) by rw [HE.out, if_pos ⟨by rw [← HLQ.out]; omega, by omega⟩])
  have HWT2 := Lib.hid (show wt d x = 64 + t.size + wts (d + 1) l by rw [HWT.out, if_neg (by omega)])
  have HMM := Lib.hid (show wts (d + 1) l ≤ 100000000000000 by have := HWT2.out; omega)
  clear h4 h1 hm HWT HWT2 HE
  have hds := dec_size (L : Int) (by omega) (by omega)
  have HD := Lib.hid (fun wx => digits_is (L : Int) wx (by omega) (by omega))
  have hdl := dec_list (L : Int)
  generalize dec (L : Int) = q at hds HD hdl
  have HDL := Lib.hid hdl
  have hc1 : ¬ 9223372036854775807 < 1 + q.size := by omega
  have hc2 : ¬ 9223372036854775807 < 1 + q.size + 2 := by omega
  clear hdl
  go_enter Tryd.func24, Tryd.ntmps24
  go_upto_region 18 with (first
    | (go_at_call 30; refine Calls.mono (HP.out _) ?_; (rintro e w1 ⟨rfl, hb1⟩; have HX1 := Lib.hid (keep_blk hb1 HX0.out); have HB1 := Lib.hid (HN.out.2.trans (hb1.mono HN.out.2.size)); clear x0 x1 x2 x3 hb1; obtain ⟨x0, x1, x2, x3⟩ := cells4 HX1.out))
    | (go_at_call 32; refine Calls.mono (HD.out _) ?_; (rintro e w2 ⟨rfl, hb2⟩; have HX2 := Lib.hid (keep_blk hb2 HX1.out); have HB2 := Lib.hid (HB1.out.trans (hb2.mono HB1.out.size)); clear hb2 x0 x1 x2 x3)))
  obtain ⟨S0, hS0⟩ : ∃ S0 : ByteArray, S0 = ⟨#[42]⟩ ++ q ++ ⟨#[13, 10]⟩ := ⟨_, rfl⟩
  have HS0 := Lib.hid (show S0.toList = 42 :: (Lib.itoa (L : Int) ++ crlf) by rw [hS0, toList_app, toList_app, star_list, crlf_list, HDL.out]; simp)
  have hS0z : S0.size ≤ 30 := by rw [hS0]; simp only [ByteArray.size_append]; show 1 + q.size + 2 ≤ 30; omega
  rw [← hS0]
  have HS0L := Lib.hid (show (42 :: (Lib.itoa (L : Int) ++ crlf) : List UInt8).length ≤ 30 by rw [← HS0.out, toList_len]; exact hS0z)
  clear hS0
  go_wp2_with fail
  go_loopw [6, 7] (fun s6 s7 wr => ∃ (S : ByteArray) (i : Nat) (ri : List UInt8), s6 = .string S ∧ i ≤ L ∧ s7 = .int .i64 i ∧ RowKit.Hid (encs (d + 1) (l.take i) = some ri) ∧ RowKit.Hid (S.toList = 42 :: (Lib.itoa (L : Int) ++ crlf) ++ ri) ∧ RowKit.Hid (wr.heap[w.heap.size]? = some (.cells #[.int .i64 6, .int .i64 z, .string t, .slice A L c] 24 (0, 0))) ∧ RowKit.Hid (Below w.heap.size w wr)) (fun _ s7 _ => L - (intOf s7).toNat)
  case atStart => exact ⟨S0, 0, [], rfl, Nat.zero_le _, rfl, Lib.hid (by simp [encs]), Lib.hid (by rw [List.append_nil]; exact HS0.out), HX2, HB2⟩
  case round =>
    obtain ⟨S, i, ri, rfl, hiL, rfl, HEN, HSL, HX, HB⟩ := hrel
    have hzr := HB.out.size
    obtain ⟨x0, x1, x2, x3⟩ := cells4 HX.out
    by_cases hlt : i < L
    · have hlt2 := Lib.hid (show i < l.length by rw [← HLQ.out]; exact hlt)
      obtain ⟨b, off, rfl, hrow⟩ := HR.out.row (Nat.zero_lt_of_lt hlt2.out)
      obtain ⟨A', c', q0, q1, q2, q3, hx⟩ := hrow.at hlt2.out
      have HXY := Lib.hid (hx.below HB.out)
      have g0 := cell_below HB.out q0
      have g1 := cell_below HB.out q1
      have g2 := cell_below HB.out q2
      have g3 := cell_below HB.out q3
      have HIi := Lib.hid (HI.out i hlt2.out)
      have HMYi := Lib.hid (HMY.out i hlt2.out)
      have HTK := Lib.hid (fun a h => encs_take (d := d + 1) (r := ri) (a := a) hlt2.out HEN.out h)
      have HNO := Lib.hid (fun h => encs_none (d := d + 1) hlt2.out h)
      have hwm := wts_mem (d := d + 1) (List.getElem_mem hlt2.out)
      have HBD := Lib.hid (show wt (d + 1) (l[i]'hlt2.out) ≤ 100000000000000 by have := HMM.out; omega)
      have hSz : S.size ≤ 100000000000030 := by
        have e1 := HMW.out i ri HEN.out
        have e3 := wts_take (d := d + 1) hlt2.out
        have e4 := HMM.out
        have e5 := HS0L.out
        rw [← toList_len, HSL.out, List.length_append]
        omega
      clear q0 q1 q2 q3 hx hrow hwm
      generalize l[i]'hlt2.out = y at g0 g1 g2 g3 HXY HIi HTK HNO HBD HMYi
      obtain ⟨M, hM⟩ : ∃ M, M = y.l.length := ⟨_, rfl⟩
      have HI2 := Lib.hid (show Calls Tryd.prog 24 #[tV y.k y.z y.t A' M c', .int .i64 ((d : Int) + 1)] wr (fun e w'' => REout (enc (d + 1) y) e ∧ Below wr.heap.size wr w'') by rw [hM]; exact HIi.out A' c' wr HXY.out (by omega) HBD.out)
      rw [← hM] at g3
      clear hM HIi
      obtain ⟨oy, hoy⟩ : ∃ oy, enc (d + 1) y = oy := ⟨_, rfl⟩
      rw [hoy] at HI2 HTK HNO HMYi
      clear hoy
      cases oy with
      | none =>
        have hr : r = none := by rw [HE2.out, HNO.out rfl]; rfl
        subst hr
        go_wp2_with ((go_at_call 24; refine Calls.mono (HI2.out.mono (R' := fun e w'' => ∃ s, e = .returned (.tuple #[.string s, .bool false]) ∧ Below wr.heap.size wr w'') (fun e w' h => by obtain ⟨s, hs⟩ := rout_none h.1; exact ⟨s, hs, h.2⟩)) ?_; (rintro e w11 ⟨s', rfl, hb11⟩; have HB11 := Lib.hid (HB.out.trans (hb11.mono hzr)); clear hb11)))
        go_ret2
        exact ⟨reout_no rfl, HB11.out⟩
      | some a =>
        have haz := HMYi.out a rfl
        have hbd := HBD.out
        have hsz' : ∀ s : ByteArray, s.toList = a → s.size ≤ 100000000000000 := fun s h => by rw [← toList_len, h]; omega
        have HSZ := Lib.hid hsz'
        clear hsz' haz hbd
        go_wp2_with ((go_at_call 24; refine Calls.mono (HI2.out.mono (R' := fun e w'' => ∃ s : ByteArray, e = .returned (.tuple #[.string s, .bool true]) ∧ s.toList = a ∧ Below wr.heap.size wr w'') (fun e w' h => by obtain ⟨s, hs, hs2⟩ := rout_some h.1; exact ⟨s, hs, hs2, h.2⟩)) ?_; (rintro e w11 ⟨s', rfl, hs', hb11⟩; have HS' := Lib.hid hs'; have hov : ¬ 9223372036854775807 < S.size + s'.size := (by have := HSZ.out s' hs'; omega); have HX11 := Lib.hid (keep_blk hb11 HX.out); have HB11 := Lib.hid (HB.out.trans (hb11.mono hzr)); clear hb11 hs' x0 x1 x2 x3; obtain ⟨x0, x1, x2, x3⟩ := cells4 HX11.out)))
        exact ⟨⟨S ++ s', i + 1, ri ++ a, rfl, by omega, by go_num, Lib.hid (HTK.out a rfl), Lib.hid (by rw [toList_app, HSL.out, HS'.out]; simp), HX11, HB11⟩, by simp [intOf]; omega⟩
    · have hen : encs (d + 1) l = some ri := by have := HEN.out; rw [List.take_of_length_le (by rw [← HLQ.out]; omega)] at this; exact this
      have HR2 := Lib.hid (show r = some S.toList by rw [HE2.out, hen, HSL.out, ← HLQ.out]; simp)
      clear hen
      go_wp2
      go_ret2
      exact ⟨reout_yes HR2.out, HB.out⟩
theorem renc_all (n : Nat) : REP n := by
  induction n with
  | zero => intro x d A c w h; have := sz_pos x; omega
  | succ n ih =>
    intro x d A c w hs hr hwf hd hm
    cases hbr : bareB x with
    | false => exact renc_bare x d A c w hbr
    | true =>
      have ht := hwf.t
      have hz := hwf.z
      by_cases k1 : x.k = 1
      · exact renc_1 x d A c w k1 hbr ht hz.1 hz.2
      by_cases k2 : x.k = 2
      · exact renc_2 x d A c w k2 hbr ht hz.1 hz.2
      by_cases k3 : x.k = 3
      · exact renc_3 x d A c w k3 hbr ht hz.1 hz.2
      by_cases k4 : x.k = 4
      · exact renc_4 x d A c w k4 hbr ht hz.1 hz.2
      by_cases k5 : x.k = 5
      · exact renc_5 x d A c w k5 hbr ht hz.1 hz.2
      by_cases k6 : x.k = 6
      · exact renc_6 n ih x d A c w hs hr hwf hd k6 hbr hm
      · exact renc_no x d A c w hbr k1 k2 k3 k4 k5 k6
/-- ref04.Encode -/
theorem rencode_is (x : T) (A : Option Addr) (c : Nat) (w : World) (hr : RdT w A x) (hwf : Wf x) (hm : wt 0 x ≤ 100000000000000) :
    Calls Tryd.prog 13 #[tV x.k x.z x.t A x.l.length c] w fun e w' => e = .returned (.tuple #[.string (encS x), .bool (encO x)]) ∧ Below w.heap.size w w' := by
  have HN := Lib.hid (new1 w #[.int .i64 x.k, .int .i64 x.z, .string x.t, .slice A x.l.length c] 24)
  have HW := Lib.hid (show ∀ wx, Below w.heap.size w wx → Calls Tryd.prog 24 #[tV x.k x.z x.t A x.l.length c, .int .i64 0] wx (fun e w' => REout (enc 0 x) e ∧ Below wx.heap.size wx w') from fun wx hb => renc_all x.sz x 0 A c wx (Nat.le_refl _) (hr.below hb) hwf (by omega) hm)
  unfold encS encO
  generalize enc 0 x = r at HW ⊢
  generalize x.k = k at HN HW ⊢
  generalize x.z = z at HN HW ⊢
  generalize x.t = t at HN HW ⊢
  generalize x.l.length = L at HN HW ⊢
  clear hr hwf hm
  obtain ⟨x0, x1, x2, x3⟩ := cells4 HN.out.1
  cases r with
  | none =>
    go_enter Tryd.func13, Tryd.ntmps13
    go_wp2_with ((go_at_call 24; refine Calls.mono ((HW.out _ HN.out.2).mono (R' := fun e w'' => ∃ s, e = .returned (.tuple #[.string s, .bool false]) ∧ Below _ _ w'') (fun e w' h => by obtain ⟨s, hs⟩ := rout_none h.1; exact ⟨s, hs, h.2⟩)) ?_; (rintro e w11 ⟨s', rfl, hb11⟩; have HB11 := Lib.hid (HN.out.2.trans (hb11.mono HN.out.2.size)); clear hb11)))
    go_ret2
    exact ⟨rfl, HB11.out⟩
  | some a =>
    go_enter Tryd.func13, Tryd.ntmps13
    go_wp2_with ((go_at_call 24; refine Calls.mono ((HW.out _ HN.out.2).mono (R' := fun e w'' => ∃ s : ByteArray, e = .returned (.tuple #[.string s, .bool true]) ∧ s.toList = a ∧ Below _ _ w'') (fun e w' h => by obtain ⟨s, hs, hs2⟩ := rout_some h.1; exact ⟨s, hs, hs2, h.2⟩)) ?_; (rintro e w11 ⟨s', rfl, hs', hb11⟩; have HS' := Lib.hid hs'; have HB11 := Lib.hid (HN.out.2.trans (hb11.mono HN.out.2.size)); clear hb11 hs')))
    go_ret2
    refine ⟨?_, HB11.out⟩
    rw [← HS'.out]
    simp [ByteArray.toList_eq]
end Go.Proofs.YteghfinngilfgaaDoor.T
