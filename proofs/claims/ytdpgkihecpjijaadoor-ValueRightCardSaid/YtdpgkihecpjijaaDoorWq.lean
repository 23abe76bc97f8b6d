import Derived.Deep.DeepCutAuto
import Derived.Laws.OwnMore
import Derived.OwnWalk
import Derived.Lib.AppendStr
import Derived.Laws.IdiomStrings
import Derived.Lib.ConvBytes
import Derived.Lib.SmallJoins
import Derived.IntWalk
import Derived.Deep.AppendLies
import Derived.Deep.RegionLaw
import Derived.Test.YtdpgkihecpjijaaDoorProg
import Derived.Test.YtdpgkihecpjijaaDoorMem
import Derived.Test.YtdpgkihecpjijaaDoorVw
import Derived.Test.YtdpgkihecpjijaaDoorVx
import Derived.Test.YtdpgkihecpjijaaDoorWc
import Derived.Test.YtdpgkihecpjijaaDoorWf
import Derived.Test.YtdpgkihecpjijaaDoorWg
import Derived.Test.YtdpgkihecpjijaaDoorWn
import Derived.WalkKit
import Derived.Outline
import Derived.WalkLawsBesides
import Derived.Deep.QuietTactic
import Derived.BigQuiet
import Derived.Lib.Hide
import Derived.Handy
import Derived.Deep.RegionHeld3
import Derived.Deep.DrawnRows
import Derived.KernelRfl
import Derived.Great.Walk
import Derived.Test.YtdpgkihecpjijaaDoorOwn
namespace Go.Proofs.YtdpgkihecpjijaaDoor.T
open Go Go.RowKit Mem Own
set_option maxRecDepth 100000
set_option maxHeartbeats 1000000
set_option linter.unusedVariables false
set_option linter.unusedSimpArgs false

/-- ref10.body, kind 5 -/
theorem rbody_5 (v : Value) (a : Vl) (w : World) (hv : VRd w v a) (h : RightV a) (hk : a.kind = 5) : Calls Tryd.prog 30 #[v] w (BodyOut a w) := by
  obtain ⟨i0, hi, hz0, hz1, hz2⟩ := info_parts info5
  obtain ⟨⟨PA, pc, IA, ic, rfl, hP, hI⟩, a1, a2, a3, a4, a5⟩ := hv
  have HP := Lib.hid hP; have HI := Lib.hid hI
  clear hP hI a4 a5
  obtain ⟨k, t, ps, is, re, im⟩ := a
  dsimp only at HP HI a1 a2 a3 hk ⊢
  subst hk
  unfold maxLen at a1 a2 a3
  have hpt := (right5 h.1 rfl).1 h
  dsimp only at hpt
  obtain ⟨⟨p1, p2⟩, ⟨p3, p4⟩⟩ := hpt
  clear h
  have hu := Tryd.underlying25
  have HW := Lib.hid (own_byte (w.alloc (vO 5 t PA ps.length pc IA is.length ic re im)) 5 5 rfl)
  rw [alloc_size] at HW
  have HY0 := Lib.hid (keep_block ((Below.refl _ _).alloc (Nat.le_refl _) (.cells #[.int .u8 5] 5)) (heap_alloc_new w (vO 5 t PA ps.length pc IA is.length ic re im)))
  go_enter Tryd.func30, Tryd.ntmps30
  go_upto_region 1 with fail
  go_cut [3] (fun s3 wx => ∃ (v3 : Value) (Bk : Nat), v3 = s3 ∧ w.heap.size < Bk ∧ Bk < wx.heap.size ∧ RowKit.Hid (wx.ownsRow Bk 5 1 v3 1 (bs [5])) ∧ RowKit.Hid (wx.heap[w.heap.size]? = some (.cells #[.int .i64 5, .string t, .slice PA ps.length pc, .slice IA is.length ic, .int .i64 re, .int .i64 im] 27 (0, 0))) ∧ RowKit.Hid (Below w.heap.size w wx))
  case first =>
    go_wp2
    go_meet
    exact ⟨_, w.heap.size + 1, rfl, by omega, by (first | (simp; done) | (simp; omega)), HW, HY0, Lib.hid (by ((repeat (first | exact Below.refl _ _ | (refine Below.drew ?_) | (refine Go.below_drewN ?_ _) | (refine Below.alloc ?_ (by first | (simp; done) | omega | (simp; omega)) _) | (refine Below.setCell ?_ (by first | (simp; done) | omega | (simp; omega)) _) | (refine Below.trans ?_ (Below.mono (by assumption) (by first | (simp; done) | omega | (simp; omega)))))); done))⟩
  case rest =>
    obtain ⟨v3, Bk, rfl, hB, hBc, HO, HY, HB⟩ := hcut
    obtain ⟨d0, d1, d2, d3, d4, d5⟩ := facts6 HY.out
    have HK := Lib.hid (Kp.refl Bk wc)
    have hl1 : (part4 re).length = 4 := rfl
    have hl2 : (part4 im).length = 4 := rfl
    go_upto_region 19 with (first
      | (go_at_call 54; refine Calls.mono (rpart_is re _ p1 p2) ?_; rintro e w1 ⟨rfl, hbw1⟩; have HO1 := Lib.hid (own8_below HO.out hbw1); have HK1 := Lib.hid (HK.out.trans (Kp.of_below hbw1 (by omega))); have hzw1 := HK1.out.1.size; clear hbw1; (try (clear d0 d1 d2 d3 d4 d5)); obtain ⟨d0, d1, d2, d3, d4, d5⟩ := facts6 (HK1.out.2 _ _ _ _ (by decide) HY.out))
      | (at_builtin; refine Lib.wpList_append_own_string _ rfl (.tmp 75) (.tmp 79) 38 9 rfl Bk 5 i0 Tryd.underlying38 Tryd.underlying9 hi hz0 hz1 hz2 v3 (1) (bs ([5])) rfl HO1.out (B (part4 re)) rfl (by rw [B_size, hl1]; unfold maxLen; omega) (by rw [B_size, hl1]; omega) (by omega) ?_; intro v2 w2 hown hg _; have HO2 := Lib.hid (show w2.ownsRow Bk 5 1 v2 (1 + (B (part4 re)).size) (bs ([5] ++ part4 re)) by rw [bs_append]; exact hown); have HK2 := Lib.hid (HK1.out.trans (kp_grown HO1.out (by omega) hg)); have hzbv2 := HK2.out.1.size; clear hown hg; (try (clear d0 d1 d2 d3 d4 d5)); obtain ⟨d0, d1, d2, d3, d4, d5⟩ := facts6 (HK2.out.2 _ _ _ _ (by decide) HY.out))
      | fail)
    go_wp2_with (first
      | (go_at_call 54; refine Calls.mono (rpart_is im _ p3 p4) ?_; rintro e w4 ⟨rfl, hbw4⟩; have HO4 := Lib.hid (own8_below HO2.out hbw4); have HK4 := Lib.hid (HK2.out.trans (Kp.of_below hbw4 (by omega))); have hzw4 := HK4.out.1.size; clear hbw4; (try (clear d0 d1 d2 d3 d4 d5)); obtain ⟨d0, d1, d2, d3, d4, d5⟩ := facts6 (HK4.out.2 _ _ _ _ (by decide) HY.out))
      | (at_builtin; refine Lib.wpList_append_own_string _ rfl (.tmp 81) (.tmp 85) 38 9 rfl Bk 5 i0 Tryd.underlying38 Tryd.underlying9 hi hz0 hz1 hz2 v2 (1 + (B (part4 re)).size) (bs ([5] ++ part4 re)) rfl HO4.out (B (part4 im)) rfl (by rw [B_size, B_size, hl2, hl1]; unfold maxLen; omega) (by rw [B_size, B_size, hl2, hl1]; omega) (by omega) ?_; intro v5 w5 hown hg _; have HO5 := Lib.hid (show w5.ownsRow Bk 5 1 v5 (1 + (B (part4 re)).size + (B (part4 im)).size) (bs ([5] ++ part4 re ++ part4 im)) by rw [bs_append]; exact hown); have HK5 := Lib.hid (HK4.out.trans (kp_grown HO4.out (by omega) hg)); have hzbv5 := HK5.out.1.size; clear hown hg; (try (clear d0 d1 d2 d3 d4 d5)); obtain ⟨d0, d1, d2, d3, d4, d5⟩ := facts6 (HK5.out.2 _ _ _ _ (by decide) HY.out))
      | fail)
    go_ret
    exact body_out (by first | (simp [body]; done) | (simp [body]; rfl)) HO5.out (HB.out.trans (HK5.out.1.mono (by omega)))
end Go.Proofs.YtdpgkihecpjijaaDoor.T
