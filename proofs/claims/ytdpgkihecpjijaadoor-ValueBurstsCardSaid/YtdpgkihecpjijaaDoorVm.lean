import Derived.Test.YtdpgkihecpjijaaDoorVk
import Derived.WalkKit
import Derived.Outline
import Derived.WalkLawsBesides
import Derived.Deep.QuietTactic
import Derived.BigQuiet
import Derived.Lib.Hide
import Derived.Handy
import Derived.Deep.RegionHeld3
import Derived.Deep.DrawnRows
import Derived.KernelRfl
import Derived.Sort.Walk0
import Derived.Great.Walk
import Derived.Test.YtdpgkihecpjijaaDoorOwn
namespace Go.Proofs.YtdpgkihecpjijaaDoor.T
open Go Go.RowKit Mem Own
set_option maxRecDepth 100000
set_option maxHeartbeats 1000000
set_option linter.unusedVariables false
set_option linter.unusedSimpArgs false

/-- value.Dump, kind 5 -/
theorem dump5_is (v : Value) (a : Vl) (w : World) (hv : VRd w v a) (h : RightV a) (hk : a.kind = 5) (hh : Hv w) : Calls Tryd.prog 13 #[v] w (DumpOut a w) := by
  have HV := Lib.hid hv; have HN := Lib.hid h; have HH := Lib.hid hh
  obtain ⟨⟨PA, pc, IA, ic, rfl, hP, hI⟩, a1, a2, a3, a4, a5⟩ := hv
  have HP := Lib.hid hP; have HI := Lib.hid hI; have A4 := Lib.hid a4; have A5 := Lib.hid a5
  clear hP hI hh a4 a5
  obtain ⟨k, t, ps, is, re, im⟩ := a
  dsimp only at HV HP HI A4 A5 a1 a2 a3 hk ⊢
  subst hk
  unfold maxLen at a1 a2 a3
  have hpt := (right5 h.1 rfl).1 h
  dsimp only at hpt
  obtain ⟨⟨p1, p2⟩, ⟨p3, p4⟩⟩ := hpt
  clear h
  have hu := Tryd.underlying25
  go_enter Tryd.func13, Tryd.ntmps13
  go_upto_region 3 with (go_at_call 18; refine Calls.mono (right_yes _ _ _ (HV.out.below ?_) HN.out) ?_; (focus ((repeat (first | exact Below.refl _ _ | (refine Below.drew ?_) | (refine Go.below_drewN ?_ _) | (refine Below.alloc ?_ (by first | (simp; done) | omega | (simp; omega)) _) | (refine Below.setCell ?_ (by first | (simp; done) | omega | (simp; omega)) _) | (refine Below.trans ?_ (Below.mono (by assumption) (by first | (simp; done) | omega | (simp; omega)))))); done)); rintro e w1 ⟨rfl, hb1⟩)
  go_cut [4] (fun s4 wx => ∃ (v4 : Value) (B : Nat), v4 = s4 ∧ w.heap.size < B ∧ B < wx.heap.size ∧ RowKit.Hid (wx.ownsRow B 5 1 v4 1 (bs [5])) ∧ RowKit.Hid (wx.heap[w.heap.size]? = some (.cells #[.int .i64 5, .string t, .slice PA ps.length pc, .slice IA is.length ic, .int .i64 re, .int .i64 im] 27 (0, 0))) ∧ RowKit.Hid (Below w.heap.size w wx))
  case first =>
    rw [alloc_size] at hb1
    have HY := Lib.hid (box_blk hb1)
    obtain ⟨d0, d1, d2, d3, d4, d5⟩ := facts6 HY.out
    have hz : w.heap.size < w1.heap.size := by have := hb1.size; simp at this; omega
    have HB1 := Lib.hid (box_below hb1)
    clear hb1
    go_wp2
    go_meet
    exact ⟨_, w1.heap.size, rfl, hz, by simp, Lib.hid (own_byte w1 5 5 rfl), Lib.hid (keep_block ((Below.refl _ _).alloc (Nat.le_refl _) _) HY.out), Lib.hid (HB1.out.alloc (Nat.le_of_lt hz) _)⟩
  case rest =>
    obtain ⟨v4, B, rfl, hB, hBc, HO, HY, HB⟩ := hcut
    obtain ⟨d0, d1, d2, d3, d4, d5⟩ := facts6 HY.out
    go_upto_region 23 with fail
    go_region_held3 (fun w' => w'.cell? ⟨w.heap.size, 4, none⟩ = some (.int .i64 re) ∧ w'.cell? ⟨w.heap.size, 5, none⟩ = some (.int .i64 im))
      ((refine ⟨?_, ?_⟩ <;> (first | assumption | (simp [*, go_sem]; done))))
      (first
        | (go_at_call_of 28 v4; refine Calls.mono (part_is B v4 [5] 1 re _ (by exact HO.out) ?_ ?_ p1 p2) ?_; (focus (first | omega | (simp; omega))); (focus omega); rintro e w2 ⟨v2, rfl, HO2, HK2⟩; obtain ⟨d0, d1, d2, d3, d4, d5⟩ := facts6 (HK2.out.2 _ _ _ _ (by decide) HY.out); have hz2 := HK2.out.1.size; (try simp at hz2); have hbk2 := HK2.out.1.mono (show w.heap.size ≤ B by omega))
        | (go_at_call 28; refine Calls.mono (part_is B v2 ([5] ++ part4 re) 5 im _ (by exact HO2.out) ?_ ?_ p3 p4) ?_; (focus (first | omega | (simp; omega))); (focus omega); rintro e w3 ⟨v3, rfl, HO3, HK3⟩; obtain ⟨d0, d1, d2, d3, d4, d5⟩ := facts6 (HK3.out.2 _ _ _ _ (by decide) (HK2.out.2 _ _ _ _ (by decide) HY.out)); have hz3 := HK3.out.1.size; (try simp at hz3); have hbk3 := HK3.out.1.mono (show w.heap.size ≤ B by omega)))
    all_goals
      have HL := Lib.hid (show ([5] ++ part4 re ++ part4 im : List UInt8).length ≤ 2 ^ 40 by simp [part4])
      have hbc := HB.out
      have HBt := Lib.hid (show Below w.heap.size w w3 from (by ((repeat (first | exact Below.refl _ _ | (refine Below.drew ?_) | (refine Go.below_drewN ?_ _) | (refine Below.alloc ?_ (by first | (simp; done) | omega | (simp; omega)) _) | (refine Below.setCell ?_ (by first | (simp; done) | omega | (simp; omega)) _) | (refine Below.trans ?_ (Below.mono (by assumption) (by first | (simp; done) | omega | (simp; omega)))))); done)))
      clear hbc hbk2 hbk3
      go_upto_region 24 with fail
      go_wp2_with (first
        | (go_at_call 29; refine Calls.mono (sum_own HO3.out ?_ (HH.out.below (HBt.out))) ?_; (focus (have := HL.out; unfold maxLen; omega)); rintro e ws ⟨rfl, rfl⟩)
        | (go_at_call 27; refine Calls.mono (two_is B _ _ _ _ _ HO3.out ?_ ?_ (BitVec.isLt _)) ?_; (focus omega); (focus omega); rintro e wt ⟨vt, rfl, HOt, HKt⟩; have kc := conv_own HOt.out (by simp [two16])))
      go_ret2
      exact dump_out (by simp [body]; rfl) ((HBt.out).trans (HKt.out.1.mono (by omega)))
end Go.Proofs.YtdpgkihecpjijaaDoor.T
