import Derived.Deep.DeepCutAuto
import Derived.Laws.OwnMore
import Derived.OwnWalk
import Derived.Lib.AppendStr
import Derived.Lib.SliceRun
import Derived.Lib.SmallJoins
import Derived.IntWalk
import Derived.WalkMore
import Derived.Lib.OthersKept
import Derived.Deep.LoopGhost
import Derived.Deep.RegionLaw
import Derived.Deep.AppendLies
import Derived.Test.YtfdcacjfngjmdaaDoorProg
import Derived.Test.YtfdcacjfngjmdaaDoorMem
import Derived.Test.YtfdcacjfngjmdaaDoorBlk
import Derived.Test.YtfdcacjfngjmdaaDoorAp
import Derived.Test.YtfdcacjfngjmdaaDoorDu
import Derived.WalkKit
import Derived.Outline
import Derived.WalkLawsBesides
import Derived.Deep.QuietTactic
import Derived.BigQuiet
import Derived.Lib.Hide
import Derived.Handy
import Derived.Deep.RegionHeld3
import Derived.Deep.DrawnRows
import Derived.KernelRfl
import Derived.Great.Walk
import Derived.Test.YtfdcacjfngjmdaaDoorOwn
namespace Go.Proofs.YtfdcacjfngjmdaaDoor.T
open Go Go.RowKit Go.Sort Mem Own
set_option maxRecDepth 100000
set_option maxHeartbeats 1000000
set_option linter.unusedVariables false
set_option linter.unusedSimpArgs false

/-- DictMany. -/
theorem many_is (z : Int) (w : World) (hh : Hv w) : Calls Tryd.prog 4 #[.int .i64 z] w fun e w' => e = .returned (.bool true) ∧ Below w.heap.size w w' := by
  have h0 : 0 < w.heap.size := lt_of_cell (hh 0 (by decide))
  have HNW := Lib.hid (newI_is w.heap.size (fun _ => (0, 0, 0)) w (Nat.le_refl _))
  have HH := Lib.hid hh
  have HAL := Lib.hid (fun (wx : World) (hb : Below w.heap.size w wx) => alive_is wx (HH.out.keep hb h0))
  clear hh
  go_enter Tryd.func4, Tryd.ntmps4
  go_upto_region 2 with (go_at_call 13; refine Calls.mono HNW.out ?_; rintro e w1 ⟨g, b1, ow1, rfl, hg, hd1, hc1⟩; have HD1 := Lib.hid hd1; have HC1 := Lib.hid hc1.below; clear hd1 hc1)
  clear HNW
  have hz1 := HC1.out.size
  by_cases hneg : z < 0
  · have hd1 : decide (z < 0) = true := decide_eq_true hneg
    go_wp2_with (go_at_call 10; refine Calls.mono (HAL.out _ HC1.out) ?_; rintro e w2 ⟨rfl, hb2⟩; have HB2 := Lib.hid (HC1.out.trans (hb2.mono hz1)); clear hb2)
    go_ret
    exact ⟨rfl, HB2.out⟩
  by_cases hbig : z > 3000
  · have hd1 : decide (z < 0) = false := decide_eq_false hneg
    have hd2 : decide (z > 3000) = true := decide_eq_true hbig
    have hd3 : (3000 : Int) < z := hbig
    go_wp2_with (go_at_call 10; refine Calls.mono (HAL.out _ HC1.out) ?_; rintro e w2 ⟨rfl, hb2⟩; have HB2 := Lib.hid (HC1.out.trans (hb2.mono hz1)); clear hb2)
    go_ret
    exact ⟨rfl, HB2.out⟩
  obtain ⟨M, rfl⟩ : ∃ M : Nat, z = (M : Int) := ⟨z.toNat, by omega⟩
  have hM : M ≤ 3000 := by omega
  have hd1 : decide ((M : Int) < 0) = false := decide_eq_false hneg
  have hd2 : decide ((M : Int) > 3000) = false := decide_eq_false hbig
  have hd3 : ¬ (3000 : Int) < (M : Int) := hbig
  clear hbig hneg
  go_wp2_with fail
  go_loopw [29] (fun s29 wr => ∃ (i : Nat) (ow2 : Ow) (gn go : Nat) (nv ov : List Value), i ≤ M ∧ s29 = .int .i64 i ∧ RowKit.Hid (DR wr w.heap.size 75 81 80 g ow2 (mp i) gn go nv ov) ∧ RowKit.Hid (Below w.heap.size w wr)) (fun s29 _ => M - (intOf s29).toNat)
  case atStart => exact ⟨0, ow1, b1, 0, _, _, Nat.zero_le _, rfl, HD1, HC1⟩
  case round =>
    obtain ⟨i, ow2, gn, go, nv, ov, hiM, rfl, HDR, HB⟩ := hrel
    have hzr := HB.out.size
    by_cases hlt : i < M
    · have HNM := Lib.hid (fun (wx : World) => nm_is i (by omega) wx)
      have HP := Lib.hid (fun (wx : World) (hd : DR wx w.heap.size 75 81 80 g ow2 (mp i) gn go nv ov) (hv : Hv wx) => (by
        have := putI_is w.heap.size g gn go i ow2 (mp i) nv ov (nmm i) (i : Int) wx hd (mp_is i (by omega)).inv (mp_is i (by omega)).inv.step (by omega) (by show 3 ≤ 9223372036854775807; decide) hv h0
        rw [mp_has (by omega)] at this
        exact this : Calls Tryd.prog 15 #[.pointer (some ⟨g, 0, none⟩), .string (nmm i), .int .i64 (i : Int)] wx fun e w' => e = .returned (.bool false) ∧ ∃ ow' gn' go' nv' ov', DR w' w.heap.size 75 81 80 g ow' (mp (i + 1)) gn' go' nv' ov' ∧ Chg w.heap.size g ow2 ow' wx w'))
      generalize nmm i = n at HNM HP
      go_wp2_with (first
        | (go_at_call 14; refine Calls.mono (HNM.out _) ?_; rintro e w3 ⟨rfl, hb3⟩; have HD3 := Lib.hid (HDR.out.below hb3); have HB3 := Lib.hid (HB.out.trans (hb3.mono hzr)); clear hb3)
        | (go_at_call 15; refine Calls.mono (HP.out _ HD3.out (HH.out.keep HB3.out h0)) ?_; rintro e w4 ⟨rfl, ow4, gn4, go4, nv4, ov4, hd4, hc4⟩; have HD4 := Lib.hid hd4; have HB4 := Lib.hid (HB3.out.trans hc4.below); clear hd4 hc4))
      exact ⟨⟨i + 1, ow4, gn4, go4, nv4, ov4, by omega, by go_num, HD4, HB4⟩, by simp [intOf]; omega⟩
    · obtain rfl : i = M := by omega
      clear HD1 HC1 hiM hlt
      go_wp2_with fail
      go_loopw [40] (fun s40 wr2 => ∃ j : Nat, j ≤ i ∧ s40 = .int .i64 j ∧ RowKit.Hid (DR wr2 w.heap.size 75 81 80 g ow2 (mp i) gn go nv ov) ∧ RowKit.Hid (Below w.heap.size w wr2)) (fun s40 _ => i - (intOf s40).toNat)
      case atStart => exact ⟨0, Nat.zero_le _, rfl, HDR, HB⟩
      case round =>
        obtain ⟨j, hjM, rfl, HDR2, HB2⟩ := hrel
        have hzr2 := HB2.out.size
        by_cases hlt : j < i
        · have HNM := Lib.hid (fun (wx : World) => nm_is j (by omega) wx)
          have HP := Lib.hid (fun (wx : World) (hd : DR wx w.heap.size 75 81 80 g ow2 (mp i) gn go nv ov) (hv : Hv wx) => (by
            have := getI_is w.heap.size g gn go i ow2 (mp i) nv ov (nmm j) wx hd (mp_is i hM).inv (by omega) (by show 3 ≤ 9223372036854775807; decide) hv
            have e : (mp i).gets (nmm j) (.int .i64 0) = (.int .i64 (j : Int), true) := by unfold Dm.gets; rw [(mp_is i hM).yes j hlt]
            rw [e] at this
            exact this : Calls Tryd.prog 16 #[.pointer (some ⟨g, 0, none⟩), .string (nmm j)] wx fun e w' => e = .returned (.tuple #[.int .i64 (j : Int), .bool true]) ∧ Below wx.heap.size wx w'))
          generalize nmm j = n at HNM HP
          go_wp2_with (first
            | (go_at_call 14; refine Calls.mono (HNM.out _) ?_; rintro e w3 ⟨rfl, hb3⟩; have HD3 := Lib.hid (HDR2.out.below hb3); have HB3 := Lib.hid (HB2.out.trans (hb3.mono hzr2)); clear hb3)
            | (go_at_call 16; refine Calls.mono (HP.out _ HD3.out (HH.out.keep HB3.out h0)) ?_; rintro e w4 ⟨rfl, hb4⟩; have hz3 := HB3.out.size; have HD4 := Lib.hid (HD3.out.below hb4); have HB4 := Lib.hid (HB3.out.trans (hb4.mono hz3)); clear hb4))
          exact ⟨⟨j + 1, by omega, by go_num, HD4, HB4⟩, by simp [intOf]; omega⟩
        · obtain rfl : j = i := by omega
          clear HDR HB hzr
          go_wp2_with fail
          go_loopw [60] (fun s60 wr3 => ∃ (k : Nat) (ow5 : Ow) (gn5 go5 : Nat) (nv5 ov5 : List Value), k ≤ j ∧ s60 = .int .i64 k ∧ RowKit.Hid (DR wr3 w.heap.size 75 81 80 g ow5 (md j k) gn5 go5 nv5 ov5) ∧ RowKit.Hid (Below w.heap.size w wr3)) (fun s60 _ => j - (intOf s60).toNat)
          case atStart => exact ⟨0, ow2, gn, go, nv, ov, Nat.zero_le _, rfl, HDR2, HB2⟩
          case round =>
            obtain ⟨k, ow5, gn5, go5, nv5, ov5, hkM, rfl, HDR5, HB5⟩ := hrel
            have hzr5 := HB5.out.size
            by_cases hlt : k < j
            · have HNM := Lib.hid (fun (wx : World) => nm_is k (by omega) wx)
              have HP := Lib.hid (fun (wx : World) (hd : DR wx w.heap.size 75 81 80 g ow5 (md j k) gn5 go5 nv5 ov5) (hv : Hv wx) => (by
                have := deleteI_is w.heap.size g gn5 go5 j ow5 (md j k) nv5 ov5 (nmm k) wx hd (md_is hM k (by omega)).inv (md_is hM k (by omega)).inv.step (by omega) (by show 3 ≤ 9223372036854775807; decide) hv h0
                rw [md_has hM hlt] at this
                exact this : Calls Tryd.prog 17 #[.pointer (some ⟨g, 0, none⟩), .string (nmm k)] wx fun e w' => e = .returned (.bool true) ∧ ∃ ow' gn' go' nv' ov', DR w' w.heap.size 75 81 80 g ow' (md j (k + 1)) gn' go' nv' ov' ∧ Chg w.heap.size g ow5 ow' wx w'))
              generalize nmm k = n at HNM HP
              go_wp2_with (first
                | (go_at_call 14; refine Calls.mono (HNM.out _) ?_; rintro e w3 ⟨rfl, hb3⟩; have HD3 := Lib.hid (HDR5.out.below hb3); have HB3 := Lib.hid (HB5.out.trans (hb3.mono hzr5)); clear hb3)
                | (go_at_call 17; refine Calls.mono (HP.out _ HD3.out (HH.out.keep HB3.out h0)) ?_; rintro e w4 ⟨rfl, ow4, gn4, go4, nv4, ov4, hd4, hc4⟩; have HD4 := Lib.hid hd4; have HB4 := Lib.hid (HB3.out.trans hc4.below); clear hd4 hc4))
              exact ⟨⟨k + 1, ow4, gn4, go4, nv4, ov4, by omega, by go_num, HD4, HB4⟩, by simp [intOf]; omega⟩
            · obtain rfl : k = j := by omega
              clear HDR2 HB2 hzr2
              have HMR := Lib.hid (fun r => mr_is (md_is hM k (Nat.le_refl _)).inv (md_is hM k (Nat.le_refl _)).pw (by have := (md_is hM k (Nat.le_refl _)).many; omega) r)
              have HEND := Lib.hid (mr_end hM)
              go_wp2_with fail
              go_loopw [70] (fun s70 wr4 => ∃ (r : Nat) (ow6 : Ow) (gn6 go6 : Nat) (nv6 ov6 : List Value), r ≤ 8000 ∧ s70 = .int .i64 r ∧ RowKit.Hid (DR wr4 w.heap.size 75 81 80 g ow6 (mr (md k k) r) gn6 go6 nv6 ov6) ∧ RowKit.Hid (Below w.heap.size w wr4)) (fun s70 _ => 8000 - (intOf s70).toNat)
              case atStart => exact ⟨0, ow5, gn5, go5, nv5, ov5, Nat.zero_le _, rfl, HDR5, HB5⟩
              case round =>
                obtain ⟨r, ow6, gn6, go6, nv6, ov6, hr8, rfl, HDR6, HB6⟩ := hrel
                have hzr6 := HB6.out.size
                by_cases hlt : r < 8000
                · have HS := Lib.hid (fun (wx : World) (hd : DR wx w.heap.size 75 81 80 g ow6 (mr (md k k) r) gn6 go6 nv6 ov6) (hv : Hv wx) => stepI_is w.heap.size g gn6 go6 k ow6 (mr (md k k) r) nv6 ov6 wx hd (HMR.out r).1 (by omega) hv h0)
                  have HP := Lib.hid (fun (ow7 : Ow) (nv7 ov7 : List Value) (wx : World) (hd : DR wx w.heap.size 75 81 80 g ow7 (mr (md k k) r).step gn6 go6 nv7 ov7) (hv : Hv wx) => deleteI_is w.heap.size g gn6 go6 k ow7 (mr (md k k) r).step nv7 ov7 ⟨#[]⟩ wx hd (HMR.out r).1.step (HMR.out r).1.step.step (by omega) (by decide) hv h0)
                  go_wp2_with (first
                    | (go_at_call 18; refine Calls.mono (HS.out _ HDR6.out (HH.out.keep HB6.out h0)) ?_; rintro e w3 ⟨rfl, ow7, nv7, ov7, hd3, hc3⟩; have HD3 := Lib.hid hd3; have HB3 := Lib.hid (HB6.out.trans hc3.below); clear hd3 hc3)
                    | (go_at_call 17; refine Calls.mono (HP.out _ _ _ _ HD3.out (HH.out.keep HB3.out h0)) ?_; rintro e w4 ⟨rfl, ow4, gn4, go4, nv4, ov4, hd4, hc4⟩; have HD4 := Lib.hid hd4; have HB4 := Lib.hid (HB3.out.trans hc4.below); clear hd4 hc4))
                  exact ⟨⟨r + 1, ow4, gn4, go4, nv4, ov4, by omega, by go_num, HD4, HB4⟩, by simp [intOf]; omega⟩
                · obtain rfl : r = 8000 := by omega
                  obtain ⟨e1, e2, e3, e4, e5⟩ := HEND.out
                  have HR := Lib.hid (fun (wx : World) (hd : DR wx w.heap.size 75 81 80 g ow6 (mr (md k k) 8000) gn6 go6 nv6 ov6) => rooms_is w.heap.size g gn6 go6 k ow6 _ nv6 ov6 wx hd e1 (by omega))
                  have HL := Lib.hid (fun (wx : World) (hd : DR wx w.heap.size 75 81 80 g ow6 (mr (md k k) 8000) gn6 go6 nv6 ov6) => lenI_is w.heap.size g gn6 go6 ow6 _ nv6 ov6 wx hd)
                  rw [e3, e4, e5] at HR
                  rw [e2] at HL
                  clear e1 e2 e3 e4 e5 HEND HMR HDR5
                  generalize mr (md k k) 8000 = m5 at HDR6 HR HL
                  go_wp2_with (first
                    | (go_at_call 19; refine Calls.mono (HR.out _ HDR6.out) ?_; rintro e w4 ⟨rfl, hb4⟩; have HB4 := Lib.hid (HB6.out.trans (hb4.mono hzr6)); have HD4 := Lib.hid (HDR6.out.below hb4); have hz4 := HB4.out.size; clear hb4)
                    | (go_at_call 10; refine Calls.mono (HAL.out _ HB4.out) ?_; rintro e w5 ⟨rfl, hb5⟩; have HB5' := Lib.hid (HB4.out.trans (hb5.mono hz4)); have HD5 := Lib.hid (HD4.out.below hb5); clear hb5)
                    | (go_at_call 20; refine Calls.mono (HL.out _ HD5.out) ?_; rintro e w6 ⟨rfl, rfl⟩))
                  go_ret
                  exact ⟨rfl, HB5'.out⟩
end Go.Proofs.YtfdcacjfngjmdaaDoor.T
