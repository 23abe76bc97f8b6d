import Derived.Deep.DeepCutAuto
import Derived.Laws.OwnMore
import Derived.OwnWalk
import Derived.Lib.AppendStr
import Derived.Lib.SliceRun
import Derived.Lib.SmallJoins
import Derived.IntWalk
import Derived.WalkMore
import Derived.Lib.OthersKept
import Derived.Deep.LoopGhost
import Derived.Deep.RegionLaw
import Derived.Deep.AppendLies
import Derived.Test.YtfdcacjfngjmdaaDoorProg
import Derived.Test.YtfdcacjfngjmdaaDoorMem
import Derived.Test.YtfdcacjfngjmdaaDoorBlk
import Derived.Test.YtfdcacjfngjmdaaDoorAp
import Derived.Test.YtfdcacjfngjmdaaDoorDr
import Derived.WalkKit
import Derived.Outline
import Derived.WalkLawsBesides
import Derived.Deep.QuietTactic
import Derived.BigQuiet
import Derived.Lib.Hide
import Derived.Handy
import Derived.Deep.RegionHeld3
import Derived.Deep.DrawnRows
import Derived.KernelRfl
import Derived.Great.Walk
import Derived.Test.YtfdcacjfngjmdaaDoorOwn
namespace Go.Proofs.YtfdcacjfngjmdaaDoor.T
open Go Go.RowKit Go.Sort Mem Own
set_option maxRecDepth 100000
set_option maxHeartbeats 1000000
set_option linter.unusedVariables false
set_option linter.unusedSimpArgs false

/-- dict.Delete -/
theorem deleteI_is (B g gn go K : Nat) (ow : Ow) (m : Dm) (nv ov : List Value) (t : ByteArray) (w : World) (h : DR w B 75 81 80 g ow m gn go nv ov) (hi : Inv K m) (hs : Inv K m.step) (hK : K ≤ 1000000000) (ht : t.size ≤ 9223372036854775807) (hh : Hv w) (hB0 : 0 < B) :
    Calls Tryd.prog 17 #[.pointer (some ⟨g, 0, none⟩), .string t] w fun e w' => e = .returned (.bool (m.step.has t)) ∧ ∃ ow' gn' go' nv' ov', DR w' B 75 81 80 g ow' (m.step.del t) gn' go' nv' ov' ∧ Chg B g ow ow' w w' := by
  have hBw : B ≤ w.heap.size := by have h1 := h.base; have h2 := lt_of_blk h.blk; omega
  have HS := Lib.hid (stepI_is B g gn go K ow m nv ov w h hi hK hh hB0)
  generalize m.step = s at HS hs ⊢
  have HF := Lib.hid (fun (ow1 : Ow) (nv1 ov1 : List Value) (wx : World) (hd : DR wx B 75 81 80 g ow1 s gn go nv1 ov1) (hv : Hv wx) => findI_is B g gn go K ow1 s nv1 ov1 t wx hd hs hK ht hv)
  have HI := Lib.hid hs
  have HH := Lib.hid hh
  have hn4 := hs.n4
  have hnK := hs.nK
  clear h hi hs hh
  go_enter Tryd.func17, Tryd.ntmps17
  go_upto_region 3 with (first
    | (go_at_call 18; refine Calls.mono HS.out ?_; rintro e w1 ⟨rfl, ow1, nv1, ov1, hd1, hc1⟩; have HD1 := Lib.hid hd1; have HC1 := Lib.hid hc1; clear hd1 hc1)
    | (go_at_call 34; refine Calls.mono (HF.out ow1 nv1 ov1 w1 HD1.out (HH.out.keep HC1.out.below hB0)) ?_; rintro e w2 ⟨b, k, i, rfl, hf, hb2⟩))
  have HFD := Lib.hid hf
  have hz1 := HC1.out.below.size
  have HD2 := Lib.hid (HD1.out.below hb2)
  have HC2 := Lib.hid (HC1.out.trans (Chg.of_below hb2 (by omega)))
  have hz2 := HC2.out.below.size
  have hgN : 0 < g + 1 := by omega
  clear HF HS hf hb2 HD1 HC1
  have HHS := Lib.hid (found_has HFD.out)
  go_upto_if 16 with fail
  go_cut [6] (fun s6 wx => s6 = .int .i64 i ∧ RowKit.Hid (∃ nv4 ov4, DR wx B 75 81 80 g ow1 (s.rem t) gn go nv4 ov4 ∧ Chg B g ow ow1 w wx))
  case first =>
    by_cases hpos : 0 ≤ i
    · obtain ⟨bb, L, c, j, xs, rfl, q1, q2, q3, q4, q5, how, hone, hall⟩ := found_cut HD2.out HI.out HFD.out hpos
      have hrem : s.rem t = { s.cut t with many := s.many - 1 } := by unfold Dm.rem; rw [HHS.out, decide_eq_true hpos]; rfl
      have HD36 := Lib.hid (fun (wx : World) (hx : wx.ownsRow B 80 2 (.slice (some ⟨bb, 0, none⟩) L c) L xs) => del36_is B bb L c j xs wx hx q3 (by omega) hone)
      have HOW := Lib.hid how
      have HALL := Lib.hid hall
      have hd1 : decide (0 ≤ ((j : Nat) : Int)) = true := decide_eq_true hpos
      have hw1 : IntKind.i64.wrap ((j : Int) + 1) = ((j + 1 : Nat) : Int) := by rw [wrap_small _ (by omega) (by omega)]; omega
      clear how hall hone
      have hmp : 1 ≤ s.many := by
        have h1 := HI.out.count
        obtain ⟨x, hx, -⟩ := has_yes (by have := HI.out.n4; omega) (show s.has t = true by rw [HHS.out]; exact decide_eq_true hpos)
        have := List.length_pos_of_mem hx
        omega
      have hmk := HI.out.mK
      obtain ⟨X, hX⟩ : ∃ X, X = s.many := ⟨_, rfl⟩
      rw [← hX] at hmp hmk hrem
      have HX := Lib.hid hX
      have HREM := Lib.hid hrem
      have q5' : b ≠ bb := q5
      clear hX hrem
      go_upto_region 5 with (first
        | (go_at_call 36; refine Calls.mono (HD36.out _ HOW.out) ?_; rintro e w3 ⟨rfl, ho3, hz3, hbl3, hr3⟩; have c3 := (World.cell?_of_block (a := ⟨b, k, none⟩) (hr3 b q5')).trans q1; have f3 := (World.frozen?_of_block (a := ⟨b, k, none⟩) (hr3 b q5')).trans q2; obtain ⟨nv4, ov4, hd4, hc4⟩ := HALL.out w3 ho3 hz3 hr3 hbl3; have HD4 := Lib.hid hd4; have HC4 := Lib.hid hc4; clear ho3 hr3 hd4 hc4 hbl3))
      obtain ⟨wy, hwy⟩ : ∃ x, x = w3.setCell ⟨b, k, none⟩ (.slice (some ⟨bb, 0, none⟩) (L - 1) c) := ⟨_, rfl⟩
      rw [← hwy] at HD4 HC4 ⊢
      clear hwy c3 f3 q1 q2 HALL HOW HD36
      have hb4 := HD4.out.blk
      have hcm : (s.cut t).many = X := by rw [HX.out]; exact congrArg (fun x => x.2.2.2) (cut_shape s t)
      rw [hcm] at hb4
      have hBg : B ≤ g := HD4.out.base
      have hw2 : IntKind.i64.wrap ((X : Int) - 1) = ((X - 1 : Nat) : Int) := by rw [wrap_small _ (by omega) (by omega)]; omega
      have HS8 := Lib.hid (HD4.out.cells (w1 := wy.setCell ⟨g, 3, none⟩ (.int .i64 ((X - 1 : Nat) : Int))) { s.cut t with many := X - 1 } rfl (.inl rfl) (fun b hb => heap_set _ _ _ _ _ hb) (Below.setCell (p := ⟨g, 3, none⟩) (Below.refl _ _) hBg _)
        (by rw [blk_set hb4]; rfl))
      obtain ⟨y0, y1, y2, y3⟩ := cells4 hb4
      obtain ⟨f0, f1, f2, f3⟩ := frees4 hb4
      clear hb4 y0 y1 y2 f0 f1 f2 hcm
      go_wp2_with fail
      go_meet
      refine ⟨rfl, Lib.hid ⟨nv4, ov4, ?_, ?_⟩⟩
      · rw [HREM.out]; first | exact HS8.out.1 | (rw [hw2]; exact HS8.out.1)
      · first | exact HC2.out.trans (HC4.out.trans HS8.out.2) | (rw [hw2]; exact HC2.out.trans (HC4.out.trans HS8.out.2))
    · have hrem : s.rem t = s := by unfold Dm.rem; rw [HHS.out, decide_eq_false hpos]; rfl
      have HREM := Lib.hid hrem
      have hd1 : decide (0 ≤ i) = false := decide_eq_false hpos
      clear hrem
      go_wp2_with fail
      go_meet
      exact ⟨rfl, Lib.hid ⟨nv1, ov1, by rw [HREM.out]; exact HD2.out, HC2.out⟩⟩
  case rest =>
    obtain ⟨rfl, hcut⟩ := hcut
    obtain ⟨nv4, ov4, hd4, hc4⟩ := hcut.out
    have hz4 := hc4.below.size
    have hsh := rem_shape s t
    have hnn : (s.rem t).now.length = s.now.length := hsh.1
    have hmk := HI.out.mK
    have hml : (s.rem t).many ≤ s.many := hsh.2.2.2
    obtain ⟨q, hq⟩ : ∃ q, q = s.rem t := ⟨_, rfl⟩
    have HQ := Lib.hid (show s.del t = q.shr by rw [hq]; rfl)
    rw [← hq] at hd4 hnn hml
    have HD4 := Lib.hid hd4
    have HC4 := Lib.hid hc4
    obtain ⟨N, hN⟩ : ∃ N, N = q.now.length := ⟨_, rfl⟩
    obtain ⟨O, hO⟩ : ∃ O, O = q.old.length := ⟨_, rfl⟩
    obtain ⟨Y, hY⟩ : ∃ Y, Y = q.many := ⟨_, rfl⟩
    have hn4' : 4 ≤ N := by omega
    have hnK' : N ≤ 3000000000 := by omega
    have hYK : Y ≤ 1000000000 := by omega
    have HN := Lib.hid hN
    have HO := Lib.hid hO
    have HY := Lib.hid hY
    obtain ⟨y0, y1, y2, y3⟩ := cells4 hd4.blk
    rw [← hN] at y0
    rw [← hO] at y1
    rw [← hY] at y3
    clear hcut hd4 hc4 hq hsh hnn hml hN hO hY HD2 HC2 HFD y2 hn4 hnK hmk
    have hw4 : IntKind.i64.wrap (4 * (Y : Int)) = 4 * (Y : Int) := wrap_small _ (by omega) (by omega)
    have fin : ∀ wz : World, Below wc.heap.size wc wz → q.shr = q → RowKit.Hid (∃ ow' gn' go' nv' ov', DR wz B 75 81 80 g ow' (s.del t) gn' go' nv' ov' ∧ Chg B g ow ow' w wz) := fun wz hb e => Lib.hid ⟨ow1, gn, go, nv4, ov4, by rw [HQ.out, e]; exact HD4.out.below hb, HC4.out.trans (Chg.of_below hb (by omega))⟩
    have FIN := Lib.hid fin
    clear fin
    rcases Nat.eq_zero_or_pos O with h0 | h0
    · subst h0
      have y1' : wc.cell? ⟨g, 1, none⟩ = some (.slice none 0 0) := y1
      have hold : q.old = [] := List.eq_nil_of_length_eq_zero HO.out.symm
      by_cases hN4 : 4 < N
      · by_cases hlt : 4 * Y < N
        · have hshr : q.shr = { now := List.replicate (N / 2) [], old := q.now, next := q.next, many := q.many } := by
            unfold Dm.shr
            rw [if_pos ⟨HO.out.symm, by rw [← HN.out]; exact hN4, by rw [← HN.out, ← HY.out]; exact hlt⟩, HN.out]
          have HSH := Lib.hid hshr
          have HBH := Lib.hid (fun (wx : World) (hd : DR wx B 75 81 80 g ow1 q gn go nv4 ov4) => beginI_is B g gn go (N / 2) ow1 q nv4 ov4 wx hd hold (by rw [← HN.out]; omega) (by omega))
          have hd1 : decide ((N : Int) > 4) = true := decide_eq_true (by omega)
          have hd2 : decide (4 * (Y : Int) < (N : Int)) = true := decide_eq_true (by omega)
          have hi1 : (4 : Int) < (N : Int) := by omega
          have hi2 : 4 * (Y : Int) < (N : Int) := by omega
          have hq1 : (N : Int).tdiv 2 = ((N / 2 : Nat) : Int) := by rw [Int.tdiv_eq_ediv_of_nonneg (by omega)]; omega
          have hq2 : IntKind.i64.wrap ((N / 2 : Nat) : Int) = ((N / 2 : Nat) : Int) := wrap_small _ (by omega) (by omega)
          clear hshr hold y1
          go_upto_region 7 with fail
          go_quiet (fail)
          go_wp2_with (go_at_call 35; (try rw [hq1]); (try rw [hq2]); refine Calls.mono (HBH.out _ (HD4.out.below (Go.below_drewN (Below.refl _ _) _))) ?_; rintro e w6 ⟨rfl, ow6, bn, hd6, hc6⟩; have HD6 := Lib.hid hd6; have HC6 := Lib.hid hc6; clear hd6 hc6)
          go_ret
          exact ⟨by rw [HHS.out]; rfl, ow6, bn, gn, _, nv4, by rw [HQ.out, HSH.out]; exact HD6.out, (HC4.out.trans (Chg.of_below (Go.below_drewN (Below.refl _ _) _) (by omega))).trans HC6.out⟩
        · have hshr : q.shr = q := by
            unfold Dm.shr
            rw [if_neg (by rintro ⟨-, -, h2⟩; rw [← HN.out, ← HY.out] at h2; exact hlt h2)]
          have hd1 : decide ((N : Int) > 4) = true := decide_eq_true (by omega)
          have hd2 : decide (4 * (Y : Int) < (N : Int)) = false := decide_eq_false (by omega)
          have hi1 : (4 : Int) < (N : Int) := by omega
          have hi2 : ¬ 4 * (Y : Int) < (N : Int) := by omega
          have HSH := Lib.hid hshr
          clear hshr hold y1
          go_upto_region 8 with fail
          go_quiet (fail)
          go_wp2
          go_ret
          exact ⟨by rw [HHS.out]; rfl, (FIN.out _ (Go.below_drewN (Below.refl _ _) _) HSH.out).out⟩
      · have hshr : q.shr = q := by
          unfold Dm.shr
          rw [if_neg (by rintro ⟨-, h2, -⟩; rw [← HN.out] at h2; exact hN4 h2)]
        have hd1 : decide ((N : Int) > 4) = false := decide_eq_false (by omega)
        have hi1 : ¬ (4 : Int) < (N : Int) := by omega
        have HSH := Lib.hid hshr
        clear hshr hold y1
        go_upto_region 8 with fail
        go_quiet (fail)
        go_wp2
        go_ret
        exact ⟨by rw [HHS.out]; rfl, (FIN.out _ (Go.below_drewN (Below.refl _ _) _) HSH.out).out⟩
    · rw [slV_pos h0] at y1
      have hshr : q.shr = q := by
        unfold Dm.shr
        rw [if_neg (by rintro ⟨h2, -⟩; rw [← HO.out] at h2; omega)]
      have hb0 : ((O : Int) == 0) = false := by simp; omega
      have hd0 : decide ((O : Int) = 0) = false := by simp; omega
      have hpO : (0 : Int) < (O : Int) := by omega
      have HSH := Lib.hid hshr
      clear hshr
      go_upto_region 8 with fail
      go_quiet (fail)
      go_wp2
      go_ret
      exact ⟨by rw [HHS.out]; rfl, (FIN.out _ (Go.below_drewN (Below.refl _ _) _) HSH.out).out⟩
end Go.Proofs.YtfdcacjfngjmdaaDoor.T
