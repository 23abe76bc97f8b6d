import Derived.Test.YtdpgkihecpjijaaDoorVk
import Derived.WalkKit
import Derived.Outline
import Derived.WalkLawsBesides
import Derived.Deep.QuietTactic
import Derived.BigQuiet
import Derived.Lib.Hide
import Derived.Handy
import Derived.Deep.RegionHeld3
import Derived.Deep.DrawnRows
import Derived.KernelRfl
import Derived.Sort.Walk0
import Derived.Great.Walk
import Derived.Test.YtdpgkihecpjijaaDoorOwn
namespace Go.Proofs.YtdpgkihecpjijaaDoor.T
open Go Go.RowKit Mem Own
set_option maxRecDepth 100000
set_option maxHeartbeats 1000000
set_option linter.unusedVariables false
set_option linter.unusedSimpArgs false

/-- value.Dump, kind 1 -/
theorem dump1_is (v : Value) (a : Vl) (w : World) (hv : VRd w v a) (h : RightV a) (hk : a.kind = 1) (hh : Hv w) : Calls Tryd.prog 13 #[v] w (DumpOut a w) := by
  have HV := Lib.hid hv; have HN := Lib.hid h; have HH := Lib.hid hh
  obtain ⟨⟨PA, pc, IA, ic, rfl, hP, hI⟩, a1, a2, a3, a4, a5⟩ := hv
  have HP := Lib.hid hP; have HI := Lib.hid hI; have A4 := Lib.hid a4; have A5 := Lib.hid a5
  clear hP hI hh a4 a5
  obtain ⟨k, t, ps, is, re, im⟩ := a
  dsimp only at HV HP HI A4 A5 a1 a2 a3 hk ⊢
  subst hk
  unfold maxLen at a1 a2 a3
  have hts := (right1 h.1 rfl).1 h
  dsimp only at hts
  clear h
  have hu := Tryd.underlying25
  go_enter Tryd.func13, Tryd.ntmps13
  go_upto_region 3 with (go_at_call 18; refine Calls.mono (right_yes _ _ _ (HV.out.below ?_) HN.out) ?_; (focus ((repeat (first | exact Below.refl _ _ | (refine Below.drew ?_) | (refine Go.below_drewN ?_ _) | (refine Below.alloc ?_ (by first | (simp; done) | omega | (simp; omega)) _) | (refine Below.setCell ?_ (by first | (simp; done) | omega | (simp; omega)) _) | (refine Below.trans ?_ (Below.mono (by assumption) (by first | (simp; done) | omega | (simp; omega)))))); done)); rintro e w1 ⟨rfl, hb1⟩)
  go_cut [4] (fun s4 wx => ∃ (v4 : Value) (B : Nat), v4 = s4 ∧ w.heap.size < B ∧ B < wx.heap.size ∧ RowKit.Hid (wx.ownsRow B 5 1 v4 1 (bs [1])) ∧ RowKit.Hid (wx.heap[w.heap.size]? = some (.cells #[.int .i64 1, .string t, .slice PA ps.length pc, .slice IA is.length ic, .int .i64 re, .int .i64 im] 27 (0, 0))) ∧ RowKit.Hid (Below w.heap.size w wx))
  case first =>
    rw [alloc_size] at hb1
    have HY := Lib.hid (box_blk hb1)
    obtain ⟨d0, d1, d2, d3, d4, d5⟩ := facts6 HY.out
    have hz : w.heap.size < w1.heap.size := by have := hb1.size; simp at this; omega
    have HB1 := Lib.hid (box_below hb1)
    clear hb1
    go_wp2
    go_meet
    exact ⟨_, w1.heap.size, rfl, hz, by simp, Lib.hid (own_byte w1 1 1 rfl), Lib.hid (keep_block ((Below.refl _ _).alloc (Nat.le_refl _) _) HY.out), Lib.hid (HB1.out.alloc (Nat.le_of_lt hz) _)⟩
  case rest =>
    obtain ⟨v4, B, rfl, hB, hBc, HO, HY, HB⟩ := hcut
    obtain ⟨d0, d1, d2, d3, d4, d5⟩ := facts6 HY.out
    go_upto_region 24 with (go_at_call 26; refine Calls.mono (text_is B _ _ _ t _ HO.out ?_ ?_ ?_) ?_; (focus omega); (focus omega); (focus omega); rintro e w2 ⟨v2, rfl, HO2, HK2⟩)
    have hz2 := HK2.out.1.size
    have HL := Lib.hid (show ([1] ++ two16 t.size ++ t.data.toList : List UInt8).length ≤ 2 ^ 40 by simp [two16]; omega)
    go_wp2_with (first
      | (go_at_call 29; refine Calls.mono (sum_own HO2.out ?_ (HH.out.below (HB.out.trans (HK2.out.1.mono (by omega))))) ?_; (focus (have := HL.out; unfold maxLen; omega)); rintro e ws ⟨rfl, rfl⟩)
      | (go_at_call 27; refine Calls.mono (two_is B _ _ _ _ _ HO2.out ?_ ?_ (BitVec.isLt _)) ?_; (focus omega); (focus omega); rintro e wt ⟨vt, rfl, HOt, HKt⟩; have kc := conv_own HOt.out (by simp [two16])))
    go_ret2
    exact dump_out (by simp [body, txt]; rfl) ((HB.out.trans (HK2.out.1.mono (by omega))).trans (HKt.out.1.mono (by omega)))
end Go.Proofs.YtdpgkihecpjijaaDoor.T
