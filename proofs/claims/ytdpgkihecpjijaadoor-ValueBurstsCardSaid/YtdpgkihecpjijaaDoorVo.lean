import Derived.Test.YtdpgkihecpjijaaDoorVk
import Derived.Test.YtdpgkihecpjijaaDoorVn
import Derived.WalkKit
import Derived.Outline
import Derived.WalkLawsBesides
import Derived.Deep.QuietTactic
import Derived.BigQuiet
import Derived.Lib.Hide
import Derived.Handy
import Derived.Deep.RegionHeld3
import Derived.Deep.DrawnRows
import Derived.KernelRfl
import Derived.Sort.Walk0
import Derived.Great.Walk
import Derived.Test.YtdpgkihecpjijaaDoorOwn
namespace Go.Proofs.YtdpgkihecpjijaaDoor.T
open Go Go.RowKit Mem Own
set_option maxRecDepth 100000
set_option maxHeartbeats 1000000
set_option linter.unusedVariables false
set_option linter.unusedSimpArgs false

theorem pairsB_next {ps : List (ByteArray × ByteArray)} {j : Nat} (hj : j < ps.length) {x y : ByteArray} (hx : (x, y) = ps[j]) (hd : List UInt8) : hd ++ pairsB (ps.take j) ++ two16 x.size ++ x.data.toList ++ two16 y.size ++ y.data.toList = hd ++ pairsB (ps.take (j + 1)) := by
  rw [List.take_succ_eq_append_getElem hj, ← hx]
  simp [pairsB, txt]
/-- value.Dump, kind 2 -/
theorem dump2_is (v : Value) (a : Vl) (w : World) (hv : VRd w v a) (h : RightV a) (hk : a.kind = 2) (hh : Hv w) : Calls Tryd.prog 13 #[v] w (DumpOut a w) := by
  have HV := Lib.hid hv; have HN := Lib.hid h; have HH := Lib.hid hh
  obtain ⟨⟨PA, pc, IA, ic, rfl, hP, hI⟩, a1, a2, a3, a4, a5⟩ := hv
  have HP := Lib.hid hP; have HI := Lib.hid hI; have A4 := Lib.hid a4; have A5 := Lib.hid a5
  clear hP hI hh a4 a5
  obtain ⟨k, t, ps, is, re, im⟩ := a
  dsimp only at HV HP HI A4 A5 a1 a2 a3 hk ⊢
  subst hk
  unfold maxLen at a1 a2 a3
  have hrt := (right2 h.1 rfl).1 h
  dsimp only at hrt
  obtain ⟨hsh, -, hc1, hc2⟩ := hrt
  have HSH := Lib.hid hsh
  clear hsh
  clear h
  have hu := Tryd.underlying25
  go_enter Tryd.func13, Tryd.ntmps13
  go_upto_region 3 with (go_at_call 18; refine Calls.mono (right_yes _ _ _ (HV.out.below ?_) HN.out) ?_; (focus ((repeat (first | exact Below.refl _ _ | (refine Below.drew ?_) | (refine Go.below_drewN ?_ _) | (refine Below.alloc ?_ (by first | (simp; done) | omega | (simp; omega)) _) | (refine Below.setCell ?_ (by first | (simp; done) | omega | (simp; omega)) _) | (refine Below.trans ?_ (Below.mono (by assumption) (by first | (simp; done) | omega | (simp; omega)))))); done)); rintro e w1 ⟨rfl, hb1⟩)
  go_cut [4] (fun s4 wx => ∃ (v4 : Value) (B : Nat), v4 = s4 ∧ w.heap.size < B ∧ B < wx.heap.size ∧ RowKit.Hid (wx.ownsRow B 5 1 v4 1 (bs [2])) ∧ RowKit.Hid (wx.heap[w.heap.size]? = some (.cells #[.int .i64 2, .string t, .slice PA ps.length pc, .slice IA is.length ic, .int .i64 re, .int .i64 im] 27 (0, 0))) ∧ RowKit.Hid (Below w.heap.size w wx))
  case first =>
    rw [alloc_size] at hb1
    have HY := Lib.hid (box_blk hb1)
    obtain ⟨d0, d1, d2, d3, d4, d5⟩ := facts6 HY.out
    have hz : w.heap.size < w1.heap.size := by have := hb1.size; simp at this; omega
    have HB1 := Lib.hid (box_below hb1)
    clear hb1
    go_wp2
    go_meet
    exact ⟨_, w1.heap.size, rfl, hz, by simp, Lib.hid (own_byte w1 2 2 rfl), Lib.hid (keep_block ((Below.refl _ _).alloc (Nat.le_refl _) _) HY.out), Lib.hid (HB1.out.alloc (Nat.le_of_lt hz) _)⟩
  case rest =>
    obtain ⟨v4, B, rfl, hB, hBc, HO, HY, HB⟩ := hcut
    obtain ⟨d0, d1, d2, d3, d4, d5⟩ := facts6 HY.out
    go_upto_region 9 with (go_at_call 27; refine Calls.mono (two_is B v4 [2] 1 ps.length _ HO.out ?_ ?_ ?_) ?_; (focus omega); (focus omega); (focus omega); rintro e w2 ⟨v2, rfl, HO2, HK2⟩; obtain ⟨d0, d1, d2, d3, d4, d5⟩ := facts6 (HK2.out.2 _ _ _ _ (by decide) HY.out); have hz2 := HK2.out.1.size)
    go_wp2_with fail
    go_loopw [4, 34] (fun s4 x wr => ∃ (v0 : Value) (j m : Nat), v0 = s4 ∧ j ≤ ps.length ∧ x = .int .i64 j ∧ m ≤ 3 + j * 2052 ∧ RowKit.Hid (wr.ownsRow B 5 1 v0 m (bs ([2] ++ two16 ps.length ++ pairsB (ps.take j)))) ∧ RowKit.Hid (Kp B wc wr)) (fun _ x _ => ps.length - (intOf x).toNat)
    case atStart => exact ⟨v2, 0, 3, rfl, Nat.zero_le _, rfl, by omega, Lib.hid (by simpa [pairsB] using HO2.out), HK2⟩
    case round =>
      obtain ⟨v0, j, m, rfl, hj, rfl, hm, HO0, HK0⟩ := hrel
      have hzr := HK0.out.1.size
      have HBr := Lib.hid (HB.out.trans (HK0.out.1.mono (by omega)))
      by_cases hlt : j < ps.length
      · obtain ⟨b1, o1, rfl⟩ := HP.out.addr (by omega)
        obtain ⟨g1, g2⟩ := (HP.out.below HBr.out).cell hlt
        obtain ⟨hxs, hys⟩ := HSH.out ps[j] (List.getElem_mem _)
        obtain ⟨p, hp⟩ : ∃ p, p = ps[j] := ⟨_, rfl⟩
        rw [← hp] at g1 g2 hxs hys
        obtain ⟨x, y⟩ := p
        dsimp only at g1 g2 hxs hys
        have HX := Lib.hid hp
        clear hp
        go_wp2
        go_region_held3 (fun w' => w'.cell? ⟨wr.heap.size, 0, none⟩ = some (.string x) ∧ w'.cell? ⟨wr.heap.size, 1, none⟩ = some (.string y))
          ((refine ⟨?_, ?_⟩ <;> (first | assumption | (simp [*, go_sem]; done))))
          (first
            | (go_at_call_of 26 v0; refine Calls.mono (text_is B v0 _ m x _ (by exact (HO0.out.alloc _)) ?_ ?_ ?_) ?_; (focus (first | omega | (simp; omega))); (focus omega); (focus omega); rintro e w3 ⟨v3, rfl, HO3, HK3⟩; have HX3 := HK3.out.2 _ _ _ _ (by decide) (heap_alloc_new wr (.cells #[.string x, .string y] 44)); have c0 := of_blk HX3 0; have c1 := of_blk HX3 1; (try simp at c0 c1); have hz3 := HK3.out.1.size; (try simp at hz3))
            | (go_at_call 26; refine Calls.mono (text_is B v3 _ (m + 2 + x.size) y _ (by exact HO3.out) ?_ ?_ ?_) ?_; (focus (first | omega | (simp; omega))); (focus omega); (focus omega); rintro e w4 ⟨v4', rfl, HO4, HK4⟩; have HX4 := HK4.out.2 _ _ _ _ (by decide) HX3; have c0 := of_blk HX4 0; have c1 := of_blk HX4 1; (try simp at c0 c1)))
        all_goals
          go_wp2_with fail
          exact ⟨⟨v4', j + 1, m + 2 + x.size + 2 + y.size, rfl, by omega, by go_num, by omega, Lib.hid (by rw [← pairsB_next hlt HX.out]; exact HO4.out), Lib.hid (by repeat (first | exact HK0.out | (refine Kp.drew ?_) | (refine Kp.drewN ?_ _) | (refine Kp.alloc ?_ (by omega) _) | (refine Kp.trans ?_ HK4.out) | (refine Kp.trans ?_ HK3.out)))⟩, by simp [intOf]; omega⟩
      · have HL := Lib.hid (show ([2] ++ two16 ps.length ++ pairsB (ps.take j) : List UInt8).length ≤ 2 ^ 40 by rw [own8_len HO0.out]; omega)
        have HEQ := Lib.hid (show ([2] ++ two16 ps.length ++ pairsB (ps.take j) : List UInt8) = body ⟨2, t, ps, is, re, im⟩ by rw [List.take_of_length_le (by omega)]; first | (simp [body]; done) | (simp [body]; rfl))
        go_upto_region 24 with fail
        go_wp2_with (first
          | (go_at_call 29; refine Calls.mono (sum_own HO0.out ?_ (HH.out.below (HBr.out))) ?_; (focus (have := HL.out; unfold maxLen; omega)); rintro e ws ⟨rfl, rfl⟩)
          | (go_at_call 27; refine Calls.mono (two_is B _ _ _ _ _ HO0.out ?_ ?_ (BitVec.isLt _)) ?_; (focus omega); (focus omega); rintro e wt ⟨vt, rfl, HOt, HKt⟩; have kc := conv_own HOt.out (by simp [two16])))
        go_ret2
        exact dump_out HEQ.out ((HBr.out).trans (HKt.out.1.mono (by omega)))
end Go.Proofs.YtdpgkihecpjijaaDoor.T
