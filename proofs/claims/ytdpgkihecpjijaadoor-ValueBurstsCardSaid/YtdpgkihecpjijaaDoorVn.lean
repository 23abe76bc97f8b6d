import Derived.Test.YtdpgkihecpjijaaDoorVk
import Derived.WalkKit
import Derived.Outline
import Derived.WalkLawsBesides
import Derived.Deep.QuietTactic
import Derived.BigQuiet
import Derived.Lib.Hide
import Derived.Handy
import Derived.Deep.RegionHeld3
import Derived.Deep.DrawnRows
import Derived.KernelRfl
import Derived.Sort.Walk0
import Derived.Great.Walk
import Derived.Test.YtdpgkihecpjijaaDoorOwn
namespace Go.Proofs.YtdpgkihecpjijaaDoor.T
open Go Go.RowKit Mem Own
set_option maxRecDepth 100000
set_option maxHeartbeats 1000000
set_option linter.unusedVariables false
set_option linter.unusedSimpArgs false

theorem own8_len {w : World} {B n : Nat} {v : Value} {l : List UInt8} (h : w.ownsRow B 5 1 v n (bs l)) : l.length = n := by have := h.1; simpa [bs] using this
theorem itemsB_next {is : List ByteArray} {j : Nat} (hj : j < is.length) {x : ByteArray} (hx : x = is[j]) (hd : List UInt8) : hd ++ itemsB (is.take j) ++ two16 x.size ++ x.data.toList = hd ++ itemsB (is.take (j + 1)) := by
  rw [List.take_succ_eq_append_getElem hj, ← hx]
  simp [itemsB, txt]
/-- value.Dump, kind 3 -/
theorem dump3_is (v : Value) (a : Vl) (w : World) (hv : VRd w v a) (h : RightV a) (hk : a.kind = 3) (hh : Hv w) : Calls Tryd.prog 13 #[v] w (DumpOut a w) := by
  have HV := Lib.hid hv; have HN := Lib.hid h; have HH := Lib.hid hh
  obtain ⟨⟨PA, pc, IA, ic, rfl, hP, hI⟩, a1, a2, a3, a4, a5⟩ := hv
  have HP := Lib.hid hP; have HI := Lib.hid hI; have A4 := Lib.hid a4; have A5 := Lib.hid a5
  clear hP hI hh a4 a5
  obtain ⟨k, t, ps, is, re, im⟩ := a
  dsimp only at HV HP HI A4 A5 a1 a2 a3 hk ⊢
  subst hk
  unfold maxLen at a1 a2 a3
  have hrt := (right3 h.1 rfl).1 h
  dsimp only at hrt
  obtain ⟨hsh, hc1, hc2⟩ := hrt
  have HSH := Lib.hid hsh
  clear hsh
  clear h
  have hu := Tryd.underlying25
  go_enter Tryd.func13, Tryd.ntmps13
  go_upto_region 3 with (go_at_call 18; refine Calls.mono (right_yes _ _ _ (HV.out.below ?_) HN.out) ?_; (focus ((repeat (first | exact Below.refl _ _ | (refine Below.drew ?_) | (refine Go.below_drewN ?_ _) | (refine Below.alloc ?_ (by first | (simp; done) | omega | (simp; omega)) _) | (refine Below.setCell ?_ (by first | (simp; done) | omega | (simp; omega)) _) | (refine Below.trans ?_ (Below.mono (by assumption) (by first | (simp; done) | omega | (simp; omega)))))); done)); rintro e w1 ⟨rfl, hb1⟩)
  go_cut [4] (fun s4 wx => ∃ (v4 : Value) (B : Nat), v4 = s4 ∧ w.heap.size < B ∧ B < wx.heap.size ∧ RowKit.Hid (wx.ownsRow B 5 1 v4 1 (bs [3])) ∧ RowKit.Hid (wx.heap[w.heap.size]? = some (.cells #[.int .i64 3, .string t, .slice PA ps.length pc, .slice IA is.length ic, .int .i64 re, .int .i64 im] 27 (0, 0))) ∧ RowKit.Hid (Below w.heap.size w wx))
  case first =>
    rw [alloc_size] at hb1
    have HY := Lib.hid (box_blk hb1)
    obtain ⟨d0, d1, d2, d3, d4, d5⟩ := facts6 HY.out
    have hz : w.heap.size < w1.heap.size := by have := hb1.size; simp at this; omega
    have HB1 := Lib.hid (box_below hb1)
    clear hb1
    go_wp2
    go_meet
    exact ⟨_, w1.heap.size, rfl, hz, by simp, Lib.hid (own_byte w1 3 3 rfl), Lib.hid (keep_block ((Below.refl _ _).alloc (Nat.le_refl _) _) HY.out), Lib.hid (HB1.out.alloc (Nat.le_of_lt hz) _)⟩
  case rest =>
    obtain ⟨v4, B, rfl, hB, hBc, HO, HY, HB⟩ := hcut
    obtain ⟨d0, d1, d2, d3, d4, d5⟩ := facts6 HY.out
    go_upto_region 17 with (go_at_call 27; refine Calls.mono (two_is B v4 [3] 1 is.length _ HO.out ?_ ?_ ?_) ?_; (focus omega); (focus omega); (focus omega); rintro e w2 ⟨v2, rfl, HO2, HK2⟩; obtain ⟨d0, d1, d2, d3, d4, d5⟩ := facts6 (HK2.out.2 _ _ _ _ (by decide) HY.out); have hz2 := HK2.out.1.size)
    go_wp2_with fail
    go_loopw [4, 57] (fun s4 x wr => ∃ (v0 : Value) (j m : Nat), v0 = s4 ∧ j ≤ is.length ∧ x = .int .i64 j ∧ m ≤ 3 + j * 1026 ∧ RowKit.Hid (wr.ownsRow B 5 1 v0 m (bs ([3] ++ two16 is.length ++ itemsB (is.take j)))) ∧ RowKit.Hid (Kp B wc wr)) (fun _ x _ => is.length - (intOf x).toNat)
    case atStart => exact ⟨v2, 0, 3, rfl, Nat.zero_le _, rfl, by omega, Lib.hid (by simpa [itemsB] using HO2.out), HK2⟩
    case round =>
      obtain ⟨v0, j, m, rfl, hj, rfl, hm, HO0, HK0⟩ := hrel
      have hzr := HK0.out.1.size
      have HBr := Lib.hid (HB.out.trans (HK0.out.1.mono (by omega)))
      by_cases hlt : j < is.length
      · obtain ⟨b1, o1, rfl⟩ := HI.out.addr (by omega)
        have g1 := cell_below HBr.out (HI.out.cell hlt)
        have hxs := HSH.out is[j] (List.getElem_mem _)
        obtain ⟨x, hx⟩ : ∃ x, x = is[j] := ⟨_, rfl⟩
        rw [← hx] at g1 hxs
        have HX := Lib.hid hx
        clear hx
        go_wp2_with (go_at_call 26; refine Calls.mono (text_is B v0 _ m x _ HO0.out ?_ ?_ ?_) ?_; (focus omega); (focus omega); (focus omega); rintro e w3 ⟨v3, rfl, HO3, HK3⟩)
        exact ⟨⟨v3, j + 1, m + 2 + x.size, rfl, by omega, by go_num, by omega, Lib.hid (by rw [← itemsB_next hlt HX.out]; exact HO3.out), Lib.hid (HK0.out.trans HK3.out)⟩, by simp [intOf]; omega⟩
      · have HL := Lib.hid (show ([3] ++ two16 is.length ++ itemsB (is.take j) : List UInt8).length ≤ 2 ^ 40 by rw [own8_len HO0.out]; omega)
        have HEQ := Lib.hid (show ([3] ++ two16 is.length ++ itemsB (is.take j) : List UInt8) = body ⟨3, t, ps, is, re, im⟩ by rw [List.take_of_length_le (by omega)]; first | (simp [body]; done) | (simp [body]; rfl))
        go_upto_region 24 with fail
        go_wp2_with (first
          | (go_at_call 29; refine Calls.mono (sum_own HO0.out ?_ (HH.out.below (HBr.out))) ?_; (focus (have := HL.out; unfold maxLen; omega)); rintro e ws ⟨rfl, rfl⟩)
          | (go_at_call 27; refine Calls.mono (two_is B _ _ _ _ _ HO0.out ?_ ?_ (BitVec.isLt _)) ?_; (focus omega); (focus omega); rintro e wt ⟨vt, rfl, HOt, HKt⟩; have kc := conv_own HOt.out (by simp [two16])))
        go_ret2
        exact dump_out HEQ.out ((HBr.out).trans (HKt.out.1.mono (by omega)))
/-- value.Dump, kind 4 -/
theorem dump4_is (v : Value) (a : Vl) (w : World) (hv : VRd w v a) (h : RightV a) (hk : a.kind = 4) (hh : Hv w) : Calls Tryd.prog 13 #[v] w (DumpOut a w) := by
  have HV := Lib.hid hv; have HN := Lib.hid h; have HH := Lib.hid hh
  obtain ⟨⟨PA, pc, IA, ic, rfl, hP, hI⟩, a1, a2, a3, a4, a5⟩ := hv
  have HP := Lib.hid hP; have HI := Lib.hid hI; have A4 := Lib.hid a4; have A5 := Lib.hid a5
  clear hP hI hh a4 a5
  obtain ⟨k, t, ps, is, re, im⟩ := a
  dsimp only at HV HP HI A4 A5 a1 a2 a3 hk ⊢
  subst hk
  unfold maxLen at a1 a2 a3
  have hrt := (right4 h.1 rfl).1 h
  dsimp only at hrt
  obtain ⟨-, hsh, hc1, hc2⟩ := hrt
  have HSH := Lib.hid hsh
  clear hsh
  clear h
  have hu := Tryd.underlying25
  go_enter Tryd.func13, Tryd.ntmps13
  go_upto_region 3 with (go_at_call 18; refine Calls.mono (right_yes _ _ _ (HV.out.below ?_) HN.out) ?_; (focus ((repeat (first | exact Below.refl _ _ | (refine Below.drew ?_) | (refine Go.below_drewN ?_ _) | (refine Below.alloc ?_ (by first | (simp; done) | omega | (simp; omega)) _) | (refine Below.setCell ?_ (by first | (simp; done) | omega | (simp; omega)) _) | (refine Below.trans ?_ (Below.mono (by assumption) (by first | (simp; done) | omega | (simp; omega)))))); done)); rintro e w1 ⟨rfl, hb1⟩)
  go_cut [4] (fun s4 wx => ∃ (v4 : Value) (B : Nat), v4 = s4 ∧ w.heap.size < B ∧ B < wx.heap.size ∧ RowKit.Hid (wx.ownsRow B 5 1 v4 1 (bs [4])) ∧ RowKit.Hid (wx.heap[w.heap.size]? = some (.cells #[.int .i64 4, .string t, .slice PA ps.length pc, .slice IA is.length ic, .int .i64 re, .int .i64 im] 27 (0, 0))) ∧ RowKit.Hid (Below w.heap.size w wx))
  case first =>
    rw [alloc_size] at hb1
    have HY := Lib.hid (box_blk hb1)
    obtain ⟨d0, d1, d2, d3, d4, d5⟩ := facts6 HY.out
    have hz : w.heap.size < w1.heap.size := by have := hb1.size; simp at this; omega
    have HB1 := Lib.hid (box_below hb1)
    clear hb1
    go_wp2
    go_meet
    exact ⟨_, w1.heap.size, rfl, hz, by simp, Lib.hid (own_byte w1 4 4 rfl), Lib.hid (keep_block ((Below.refl _ _).alloc (Nat.le_refl _) _) HY.out), Lib.hid (HB1.out.alloc (Nat.le_of_lt hz) _)⟩
  case rest =>
    obtain ⟨v4, B, rfl, hB, hBc, HO, HY, HB⟩ := hcut
    obtain ⟨d0, d1, d2, d3, d4, d5⟩ := facts6 HY.out
    go_upto_region 17 with (go_at_call 27; refine Calls.mono (two_is B v4 [4] 1 is.length _ HO.out ?_ ?_ ?_) ?_; (focus omega); (focus omega); (focus omega); rintro e w2 ⟨v2, rfl, HO2, HK2⟩; obtain ⟨d0, d1, d2, d3, d4, d5⟩ := facts6 (HK2.out.2 _ _ _ _ (by decide) HY.out); have hz2 := HK2.out.1.size)
    go_wp2_with fail
    go_loopw [4, 57] (fun s4 x wr => ∃ (v0 : Value) (j m : Nat), v0 = s4 ∧ j ≤ is.length ∧ x = .int .i64 j ∧ m ≤ 3 + j * 1026 ∧ RowKit.Hid (wr.ownsRow B 5 1 v0 m (bs ([4] ++ two16 is.length ++ itemsB (is.take j)))) ∧ RowKit.Hid (Kp B wc wr)) (fun _ x _ => is.length - (intOf x).toNat)
    case atStart => exact ⟨v2, 0, 3, rfl, Nat.zero_le _, rfl, by omega, Lib.hid (by simpa [itemsB] using HO2.out), HK2⟩
    case round =>
      obtain ⟨v0, j, m, rfl, hj, rfl, hm, HO0, HK0⟩ := hrel
      have hzr := HK0.out.1.size
      have HBr := Lib.hid (HB.out.trans (HK0.out.1.mono (by omega)))
      by_cases hlt : j < is.length
      · obtain ⟨b1, o1, rfl⟩ := HI.out.addr (by omega)
        have g1 := cell_below HBr.out (HI.out.cell hlt)
        have hxs := HSH.out is[j] (List.getElem_mem _)
        obtain ⟨x, hx⟩ : ∃ x, x = is[j] := ⟨_, rfl⟩
        rw [← hx] at g1 hxs
        have HX := Lib.hid hx
        clear hx
        go_wp2_with (go_at_call 26; refine Calls.mono (text_is B v0 _ m x _ HO0.out ?_ ?_ ?_) ?_; (focus omega); (focus omega); (focus omega); rintro e w3 ⟨v3, rfl, HO3, HK3⟩)
        exact ⟨⟨v3, j + 1, m + 2 + x.size, rfl, by omega, by go_num, by omega, Lib.hid (by rw [← itemsB_next hlt HX.out]; exact HO3.out), Lib.hid (HK0.out.trans HK3.out)⟩, by simp [intOf]; omega⟩
      · have HL := Lib.hid (show ([4] ++ two16 is.length ++ itemsB (is.take j) : List UInt8).length ≤ 2 ^ 40 by rw [own8_len HO0.out]; omega)
        have HEQ := Lib.hid (show ([4] ++ two16 is.length ++ itemsB (is.take j) : List UInt8) = body ⟨4, t, ps, is, re, im⟩ by rw [List.take_of_length_le (by omega)]; first | (simp [body]; done) | (simp [body]; rfl))
        go_upto_region 24 with fail
        go_wp2_with (first
          | (go_at_call 29; refine Calls.mono (sum_own HO0.out ?_ (HH.out.below (HBr.out))) ?_; (focus (have := HL.out; unfold maxLen; omega)); rintro e ws ⟨rfl, rfl⟩)
          | (go_at_call 27; refine Calls.mono (two_is B _ _ _ _ _ HO0.out ?_ ?_ (BitVec.isLt _)) ?_; (focus omega); (focus omega); rintro e wt ⟨vt, rfl, HOt, HKt⟩; have kc := conv_own HOt.out (by simp [two16])))
        go_ret2
        exact dump_out HEQ.out ((HBr.out).trans (HKt.out.1.mono (by omega)))
end Go.Proofs.YtdpgkihecpjijaaDoor.T
