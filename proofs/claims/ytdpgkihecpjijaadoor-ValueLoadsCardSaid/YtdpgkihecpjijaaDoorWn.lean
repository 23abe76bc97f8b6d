import Derived.Deep.DeepCutAuto
import Derived.Laws.OwnMore
import Derived.OwnWalk
import Derived.Lib.AppendStr
import Derived.Laws.IdiomStrings
import Derived.Lib.ConvBytes
import Derived.Lib.SmallJoins
import Derived.IntWalk
import Derived.Deep.AppendLies
import Derived.Deep.RegionLaw
import Derived.Test.YtdpgkihecpjijaaDoorProg
import Derived.Test.YtdpgkihecpjijaaDoorMem
import Derived.Test.YtdpgkihecpjijaaDoorVw
import Derived.Test.YtdpgkihecpjijaaDoorVx
import Derived.Test.YtdpgkihecpjijaaDoorWc
import Derived.Test.YtdpgkihecpjijaaDoorWf
import Derived.Test.YtdpgkihecpjijaaDoorWg
import Derived.WalkKit
import Derived.Outline
import Derived.WalkLawsBesides
import Derived.Deep.QuietTactic
import Derived.BigQuiet
import Derived.Lib.Hide
import Derived.Handy
import Derived.Deep.RegionHeld3
import Derived.Deep.DrawnRows
import Derived.KernelRfl
import Derived.Great.Walk
import Derived.Test.YtdpgkihecpjijaaDoorOwn
namespace Go.Proofs.YtdpgkihecpjijaaDoor.T
open Go Go.RowKit Mem Own
set_option maxRecDepth 100000
set_option maxHeartbeats 1000000
set_option linter.unusedVariables false
set_option linter.unusedSimpArgs false

theorem own8_below {w w1 : World} {Bk n : Nat} {v : Value} {xs : List Value} (h : w.ownsRow Bk 5 1 v n xs) (hb : Below w.heap.size w w1) : w1.ownsRow Bk 5 1 v n xs := by
  refine ⟨h.1, ?_⟩
  rcases h.2 with e | ⟨g, cap, cur, e, h1, h2, h3⟩
  · exact .inl e
  · exact .inr ⟨g, cap, cur, e, h1, by rw [hb.block g (Array.getElem?_eq_some_iff.1 h2).1]; exact h2, h3⟩
/-- What ref10.body leaves. -/
def BodyOut (a : Vl) (w : World) (e : Ending) (w' : World) : Prop := ∃ (V : Value) (n Bk : Nat), e = .returned V ∧ RowKit.Hid (w'.ownsRow Bk 5 1 V n (bs (body a))) ∧ Below w.heap.size w w'
theorem body_out {a : Vl} {w w' : World} {l : List UInt8} {V : Value} {n Bk : Nat} (he : l = body a) (h : w'.ownsRow Bk 5 1 V n (bs l)) (hb : Below w.heap.size w w') : BodyOut a w (.returned V) w' := by
  subst he; exact ⟨V, n, Bk, rfl, Lib.hid h, hb⟩
theorem txt_len (s : ByteArray) : (txt s).length = 2 + s.size := by simp [txt, two16] <;> omega
theorem itemsB_next' {is : List ByteArray} {j : Nat} (hj : j < is.length) {x : ByteArray} (hx : x = is[j]) (hd : List UInt8) : hd ++ itemsB (is.take j) ++ txt x = hd ++ itemsB (is.take (j + 1)) := by
  rw [List.take_succ_eq_append_getElem hj, ← hx]
  simp [itemsB, txt]
theorem pairsB_next' {ps : List (ByteArray × ByteArray)} {j : Nat} (hj : j < ps.length) {x y : ByteArray} (hx : (x, y) = ps[j]) (hd : List UInt8) : hd ++ pairsB (ps.take j) ++ txt x ++ txt y = hd ++ pairsB (ps.take (j + 1)) := by
  rw [List.take_succ_eq_append_getElem hj, ← hx]
  simp [pairsB, txt]
/-- ref10.body, kind 1 -/
theorem rbody_1 (v : Value) (a : Vl) (w : World) (hv : VRd w v a) (h : RightV a) (hk : a.kind = 1) : Calls Tryd.prog 30 #[v] w (BodyOut a w) := by
  obtain ⟨i0, hi, hz0, hz1, hz2⟩ := info_parts info5
  obtain ⟨⟨PA, pc, IA, ic, rfl, hP, hI⟩, a1, a2, a3, a4, a5⟩ := hv
  have HP := Lib.hid hP; have HI := Lib.hid hI
  clear hP hI a4 a5
  obtain ⟨k, t, ps, is, re, im⟩ := a
  dsimp only at HP HI a1 a2 a3 hk ⊢
  subst hk
  unfold maxLen at a1 a2 a3
  have hts := (right1 h.1 rfl).1 h
  dsimp only at hts
  clear h
  have hu := Tryd.underlying25
  have HW := Lib.hid (own_byte (w.alloc (vO 1 t PA ps.length pc IA is.length ic re im)) 1 1 rfl)
  rw [alloc_size] at HW
  have HY0 := Lib.hid (keep_block ((Below.refl _ _).alloc (Nat.le_refl _) (.cells #[.int .u8 1] 5)) (heap_alloc_new w (vO 1 t PA ps.length pc IA is.length ic re im)))
  go_enter Tryd.func30, Tryd.ntmps30
  go_upto_region 1 with fail
  go_cut [3] (fun s3 wx => ∃ (v3 : Value) (Bk : Nat), v3 = s3 ∧ w.heap.size < Bk ∧ Bk < wx.heap.size ∧ RowKit.Hid (wx.ownsRow Bk 5 1 v3 1 (bs [1])) ∧ RowKit.Hid (wx.heap[w.heap.size]? = some (.cells #[.int .i64 1, .string t, .slice PA ps.length pc, .slice IA is.length ic, .int .i64 re, .int .i64 im] 27 (0, 0))) ∧ RowKit.Hid (Below w.heap.size w wx))
  case first =>
    go_wp2
    go_meet
    exact ⟨_, w.heap.size + 1, rfl, by omega, by (first | (simp; done) | (simp; omega)), HW, HY0, Lib.hid (by ((repeat (first | exact Below.refl _ _ | (refine Below.drew ?_) | (refine Go.below_drewN ?_ _) | (refine Below.alloc ?_ (by first | (simp; done) | omega | (simp; omega)) _) | (refine Below.setCell ?_ (by first | (simp; done) | omega | (simp; omega)) _) | (refine Below.trans ?_ (Below.mono (by assumption) (by first | (simp; done) | omega | (simp; omega)))))); done))⟩
  case rest =>
    obtain ⟨v3, Bk, rfl, hB, hBc, HO, HY, HB⟩ := hcut
    obtain ⟨d0, d1, d2, d3, d4, d5⟩ := facts6 HY.out
    have HK := Lib.hid (Kp.refl Bk wc)
    have hl1 := txt_len t
    go_wp2_with (first
      | (go_at_call 53; refine Calls.mono (rtxt_is t _ (by omega)) ?_; rintro e w1 ⟨rfl, hbw1⟩; have HO1 := Lib.hid (own8_below HO.out hbw1); have HK1 := Lib.hid (HK.out.trans (Kp.of_below hbw1 (by omega))); have hzw1 := HK1.out.1.size; clear hbw1; (try (clear d0 d1 d2 d3 d4 d5)); obtain ⟨d0, d1, d2, d3, d4, d5⟩ := facts6 (HK1.out.2 _ _ _ _ (by decide) HY.out))
      | (at_builtin; refine Lib.wpList_append_own_string _ rfl (.tmp 35) (.tmp 38) 38 9 rfl Bk 5 i0 Tryd.underlying38 Tryd.underlying9 hi hz0 hz1 hz2 v3 (1) (bs ([1])) rfl HO1.out (B (txt t)) rfl (by rw [B_size, hl1]; unfold maxLen; omega) (by rw [B_size, hl1]; omega) (by omega) ?_; intro v2 w2 hown hg _; have HO2 := Lib.hid (show w2.ownsRow Bk 5 1 v2 (1 + (B (txt t)).size) (bs ([1] ++ txt t)) by rw [bs_append]; exact hown); have HK2 := Lib.hid (HK1.out.trans (kp_grown HO1.out (by omega) hg)); have hzbv2 := HK2.out.1.size; clear hown hg; (try (clear d0 d1 d2 d3 d4 d5)); obtain ⟨d0, d1, d2, d3, d4, d5⟩ := facts6 (HK2.out.2 _ _ _ _ (by decide) HY.out))
      | fail)
    go_ret
    exact body_out (by first | (simp [body]; done) | (simp [body]; rfl)) HO2.out (HB.out.trans (HK2.out.1.mono (by omega)))
/-- ref10.body, kind 3 -/
theorem rbody_3 (v : Value) (a : Vl) (w : World) (hv : VRd w v a) (h : RightV a) (hk : a.kind = 3) : Calls Tryd.prog 30 #[v] w (BodyOut a w) := by
  obtain ⟨i0, hi, hz0, hz1, hz2⟩ := info_parts info5
  obtain ⟨⟨PA, pc, IA, ic, rfl, hP, hI⟩, a1, a2, a3, a4, a5⟩ := hv
  have HP := Lib.hid hP; have HI := Lib.hid hI
  clear hP hI a4 a5
  obtain ⟨k, t, ps, is, re, im⟩ := a
  dsimp only at HP HI a1 a2 a3 hk ⊢
  subst hk
  unfold maxLen at a1 a2 a3
  have hrt := (right3 h.1 rfl).1 h
  dsimp only at hrt
  obtain ⟨hsh, hc1, hc2⟩ := hrt
  have HSH := Lib.hid hsh
  clear hsh
  clear h
  have hu := Tryd.underlying25
  have HW := Lib.hid (own_byte (w.alloc (vO 3 t PA ps.length pc IA is.length ic re im)) 3 3 rfl)
  rw [alloc_size] at HW
  have HY0 := Lib.hid (keep_block ((Below.refl _ _).alloc (Nat.le_refl _) (.cells #[.int .u8 3] 5)) (heap_alloc_new w (vO 3 t PA ps.length pc IA is.length ic re im)))
  go_enter Tryd.func30, Tryd.ntmps30
  go_upto_region 1 with fail
  go_cut [3] (fun s3 wx => ∃ (v3 : Value) (Bk : Nat), v3 = s3 ∧ w.heap.size < Bk ∧ Bk < wx.heap.size ∧ RowKit.Hid (wx.ownsRow Bk 5 1 v3 1 (bs [3])) ∧ RowKit.Hid (wx.heap[w.heap.size]? = some (.cells #[.int .i64 3, .string t, .slice PA ps.length pc, .slice IA is.length ic, .int .i64 re, .int .i64 im] 27 (0, 0))) ∧ RowKit.Hid (Below w.heap.size w wx))
  case first =>
    go_wp2
    go_meet
    exact ⟨_, w.heap.size + 1, rfl, by omega, by (first | (simp; done) | (simp; omega)), HW, HY0, Lib.hid (by ((repeat (first | exact Below.refl _ _ | (refine Below.drew ?_) | (refine Go.below_drewN ?_ _) | (refine Below.alloc ?_ (by first | (simp; done) | omega | (simp; omega)) _) | (refine Below.setCell ?_ (by first | (simp; done) | omega | (simp; omega)) _) | (refine Below.trans ?_ (Below.mono (by assumption) (by first | (simp; done) | omega | (simp; omega)))))); done))⟩
  case rest =>
    obtain ⟨v3, Bk, rfl, hB, hBc, HO, HY, HB⟩ := hcut
    obtain ⟨d0, d1, d2, d3, d4, d5⟩ := facts6 HY.out
    have HK := Lib.hid (Kp.refl Bk wc)
    have hl1 : (two16 is.length).length = 2 := rfl
    go_upto_region 4 with (first
      | (go_at_call 32; refine Calls.mono (rtwo_is is.length _ (by unfold maxLen; omega)) ?_; rintro e w1 ⟨rfl, hbw1⟩; have HO1 := Lib.hid (own8_below HO.out hbw1); have HK1 := Lib.hid (HK.out.trans (Kp.of_below hbw1 (by omega))); have hzw1 := HK1.out.1.size; clear hbw1; (try (clear d0 d1 d2 d3 d4 d5)); obtain ⟨d0, d1, d2, d3, d4, d5⟩ := facts6 (HK1.out.2 _ _ _ _ (by decide) HY.out))
      | (at_builtin; refine Lib.wpList_append_own_string _ rfl (.tmp 12) (.tmp 16) 38 9 rfl Bk 5 i0 Tryd.underlying38 Tryd.underlying9 hi hz0 hz1 hz2 v3 (1) (bs ([3])) rfl HO1.out (B (two16 is.length)) rfl (by rw [B_size, hl1]; unfold maxLen; omega) (by rw [B_size, hl1]; omega) (by omega) ?_; intro v2 w2 hown hg _; have HO2 := Lib.hid (show w2.ownsRow Bk 5 1 v2 (1 + (B (two16 is.length)).size) (bs ([3] ++ two16 is.length)) by rw [bs_append]; exact hown); have HK2 := Lib.hid (HK1.out.trans (kp_grown HO1.out (by omega) hg)); have hzbv2 := HK2.out.1.size; clear hown hg; (try (clear d0 d1 d2 d3 d4 d5)); obtain ⟨d0, d1, d2, d3, d4, d5⟩ := facts6 (HK2.out.2 _ _ _ _ (by decide) HY.out))
      | fail)
    go_wp2_with fail
    go_loopw [3, 5] (fun s3 x wr => ∃ (v0 : Value) (j m : Nat), v0 = s3 ∧ j ≤ is.length ∧ x = .int .i64 j ∧ m ≤ 3 + j * 1026 ∧ RowKit.Hid (wr.ownsRow Bk 5 1 v0 m (bs ([3] ++ two16 is.length ++ itemsB (is.take j)))) ∧ RowKit.Hid (Kp Bk wc wr)) (fun _ x _ => is.length - (intOf x).toNat)
    case atStart => exact ⟨v2, 0, 3, rfl, Nat.zero_le _, rfl, by omega, Lib.hid (by have := HO2.out; rw [show 1 + (B (two16 is.length)).size = 3 from rfl] at this; simpa [itemsB] using this), HK2⟩
    case round =>
      obtain ⟨v0, j, m, rfl, hj, rfl, hm, HO0, HK0⟩ := hrel
      have hzr := HK0.out.1.size
      have HBr := Lib.hid (HB.out.trans (HK0.out.1.mono (by omega)))
      clear d0 d1 d2 d3 d4 d5
      obtain ⟨d0, d1, d2, d3, d4, d5⟩ := facts6 (HK0.out.2 _ _ _ _ (by decide) HY.out)
      by_cases hlt : j < is.length
      · obtain ⟨b1, o1, rfl⟩ := HI.out.addr (by omega)
        have g1 := cell_below HBr.out (HI.out.cell hlt)
        have hxs := HSH.out is[j] (List.getElem_mem _)
        obtain ⟨x, hx⟩ : ∃ x, x = is[j] := ⟨_, rfl⟩
        rw [← hx] at g1 hxs
        have HX := Lib.hid hx
        clear hx
        have hlx := txt_len x
        go_wp2_with (first
          | (go_at_call 53; refine Calls.mono (rtxt_is x _ (by omega)) ?_; rintro e w4 ⟨rfl, hbw4⟩; have HO4 := Lib.hid (own8_below HO0.out hbw4); have HK4 := Lib.hid (HK0.out.trans (Kp.of_below hbw4 (by omega))); have hzw4 := HK4.out.1.size; clear hbw4; (try (clear d0 d1 d2 d3 d4 d5)); obtain ⟨d0, d1, d2, d3, d4, d5⟩ := facts6 (HK4.out.2 _ _ _ _ (by decide) HY.out))
          | (at_builtin; refine Lib.wpList_append_own_string _ rfl (.tmp 25) (.tmp 31) 38 9 rfl Bk 5 i0 Tryd.underlying38 Tryd.underlying9 hi hz0 hz1 hz2 v0 (m) (bs ([3] ++ two16 is.length ++ itemsB (is.take j))) rfl HO4.out (B (txt x)) rfl (by rw [B_size, hlx]; unfold maxLen; omega) (by rw [B_size, hlx]; omega) (by omega) ?_; intro v5 w5 hown hg _; have HO5 := Lib.hid (show w5.ownsRow Bk 5 1 v5 (m + (B (txt x)).size) (bs ([3] ++ two16 is.length ++ itemsB (is.take j) ++ txt x)) by rw [bs_append]; exact hown); have HK5 := Lib.hid (HK4.out.trans (kp_grown HO4.out (by omega) hg)); have hzbv5 := HK5.out.1.size; clear hown hg; (try (clear d0 d1 d2 d3 d4 d5)); obtain ⟨d0, d1, d2, d3, d4, d5⟩ := facts6 (HK5.out.2 _ _ _ _ (by decide) HY.out))
          | fail)
        exact ⟨⟨v5, j + 1, m + (B (txt x)).size, rfl, by omega, by go_num, by rw [B_size, hlx]; omega, Lib.hid (by rw [← itemsB_next' hlt HX.out]; exact HO5.out), HK5⟩, by simp [intOf]; omega⟩
      · have HEQ := Lib.hid (show ([3] ++ two16 is.length ++ itemsB (is.take j) : List UInt8) = body ⟨3, t, ps, is, re, im⟩ by rw [List.take_of_length_le (by omega)]; first | (simp [body]; done) | (simp [body]; rfl))
        go_wp2_with fail
        go_ret
        exact body_out HEQ.out HO0.out HBr.out
/-- ref10.body, kind 4 -/
theorem rbody_4 (v : Value) (a : Vl) (w : World) (hv : VRd w v a) (h : RightV a) (hk : a.kind = 4) : Calls Tryd.prog 30 #[v] w (BodyOut a w) := by
  obtain ⟨i0, hi, hz0, hz1, hz2⟩ := info_parts info5
  obtain ⟨⟨PA, pc, IA, ic, rfl, hP, hI⟩, a1, a2, a3, a4, a5⟩ := hv
  have HP := Lib.hid hP; have HI := Lib.hid hI
  clear hP hI a4 a5
  obtain ⟨k, t, ps, is, re, im⟩ := a
  dsimp only at HP HI a1 a2 a3 hk ⊢
  subst hk
  unfold maxLen at a1 a2 a3
  have hrt := (right4 h.1 rfl).1 h
  dsimp only at hrt
  obtain ⟨-, hsh, hc1, hc2⟩ := hrt
  have HSH := Lib.hid hsh
  clear hsh
  clear h
  have hu := Tryd.underlying25
  have HW := Lib.hid (own_byte (w.alloc (vO 4 t PA ps.length pc IA is.length ic re im)) 4 4 rfl)
  rw [alloc_size] at HW
  have HY0 := Lib.hid (keep_block ((Below.refl _ _).alloc (Nat.le_refl _) (.cells #[.int .u8 4] 5)) (heap_alloc_new w (vO 4 t PA ps.length pc IA is.length ic re im)))
  go_enter Tryd.func30, Tryd.ntmps30
  go_upto_region 1 with fail
  go_cut [3] (fun s3 wx => ∃ (v3 : Value) (Bk : Nat), v3 = s3 ∧ w.heap.size < Bk ∧ Bk < wx.heap.size ∧ RowKit.Hid (wx.ownsRow Bk 5 1 v3 1 (bs [4])) ∧ RowKit.Hid (wx.heap[w.heap.size]? = some (.cells #[.int .i64 4, .string t, .slice PA ps.length pc, .slice IA is.length ic, .int .i64 re, .int .i64 im] 27 (0, 0))) ∧ RowKit.Hid (Below w.heap.size w wx))
  case first =>
    go_wp2
    go_meet
    exact ⟨_, w.heap.size + 1, rfl, by omega, by (first | (simp; done) | (simp; omega)), HW, HY0, Lib.hid (by ((repeat (first | exact Below.refl _ _ | (refine Below.drew ?_) | (refine Go.below_drewN ?_ _) | (refine Below.alloc ?_ (by first | (simp; done) | omega | (simp; omega)) _) | (refine Below.setCell ?_ (by first | (simp; done) | omega | (simp; omega)) _) | (refine Below.trans ?_ (Below.mono (by assumption) (by first | (simp; done) | omega | (simp; omega)))))); done))⟩
  case rest =>
    obtain ⟨v3, Bk, rfl, hB, hBc, HO, HY, HB⟩ := hcut
    obtain ⟨d0, d1, d2, d3, d4, d5⟩ := facts6 HY.out
    have HK := Lib.hid (Kp.refl Bk wc)
    have hl1 : (two16 is.length).length = 2 := rfl
    go_upto_region 4 with (first
      | (go_at_call 32; refine Calls.mono (rtwo_is is.length _ (by unfold maxLen; omega)) ?_; rintro e w1 ⟨rfl, hbw1⟩; have HO1 := Lib.hid (own8_below HO.out hbw1); have HK1 := Lib.hid (HK.out.trans (Kp.of_below hbw1 (by omega))); have hzw1 := HK1.out.1.size; clear hbw1; (try (clear d0 d1 d2 d3 d4 d5)); obtain ⟨d0, d1, d2, d3, d4, d5⟩ := facts6 (HK1.out.2 _ _ _ _ (by decide) HY.out))
      | (at_builtin; refine Lib.wpList_append_own_string _ rfl (.tmp 12) (.tmp 16) 38 9 rfl Bk 5 i0 Tryd.underlying38 Tryd.underlying9 hi hz0 hz1 hz2 v3 (1) (bs ([4])) rfl HO1.out (B (two16 is.length)) rfl (by rw [B_size, hl1]; unfold maxLen; omega) (by rw [B_size, hl1]; omega) (by omega) ?_; intro v2 w2 hown hg _; have HO2 := Lib.hid (show w2.ownsRow Bk 5 1 v2 (1 + (B (two16 is.length)).size) (bs ([4] ++ two16 is.length)) by rw [bs_append]; exact hown); have HK2 := Lib.hid (HK1.out.trans (kp_grown HO1.out (by omega) hg)); have hzbv2 := HK2.out.1.size; clear hown hg; (try (clear d0 d1 d2 d3 d4 d5)); obtain ⟨d0, d1, d2, d3, d4, d5⟩ := facts6 (HK2.out.2 _ _ _ _ (by decide) HY.out))
      | fail)
    go_wp2_with fail
    go_loopw [3, 5] (fun s3 x wr => ∃ (v0 : Value) (j m : Nat), v0 = s3 ∧ j ≤ is.length ∧ x = .int .i64 j ∧ m ≤ 3 + j * 1026 ∧ RowKit.Hid (wr.ownsRow Bk 5 1 v0 m (bs ([4] ++ two16 is.length ++ itemsB (is.take j)))) ∧ RowKit.Hid (Kp Bk wc wr)) (fun _ x _ => is.length - (intOf x).toNat)
    case atStart => exact ⟨v2, 0, 3, rfl, Nat.zero_le _, rfl, by omega, Lib.hid (by have := HO2.out; rw [show 1 + (B (two16 is.length)).size = 3 from rfl] at this; simpa [itemsB] using this), HK2⟩
    case round =>
      obtain ⟨v0, j, m, rfl, hj, rfl, hm, HO0, HK0⟩ := hrel
      have hzr := HK0.out.1.size
      have HBr := Lib.hid (HB.out.trans (HK0.out.1.mono (by omega)))
      clear d0 d1 d2 d3 d4 d5
      obtain ⟨d0, d1, d2, d3, d4, d5⟩ := facts6 (HK0.out.2 _ _ _ _ (by decide) HY.out)
      by_cases hlt : j < is.length
      · obtain ⟨b1, o1, rfl⟩ := HI.out.addr (by omega)
        have g1 := cell_below HBr.out (HI.out.cell hlt)
        have hxs := HSH.out is[j] (List.getElem_mem _)
        obtain ⟨x, hx⟩ : ∃ x, x = is[j] := ⟨_, rfl⟩
        rw [← hx] at g1 hxs
        have HX := Lib.hid hx
        clear hx
        have hlx := txt_len x
        go_wp2_with (first
          | (go_at_call 53; refine Calls.mono (rtxt_is x _ (by omega)) ?_; rintro e w4 ⟨rfl, hbw4⟩; have HO4 := Lib.hid (own8_below HO0.out hbw4); have HK4 := Lib.hid (HK0.out.trans (Kp.of_below hbw4 (by omega))); have hzw4 := HK4.out.1.size; clear hbw4; (try (clear d0 d1 d2 d3 d4 d5)); obtain ⟨d0, d1, d2, d3, d4, d5⟩ := facts6 (HK4.out.2 _ _ _ _ (by decide) HY.out))
          | (at_builtin; refine Lib.wpList_append_own_string _ rfl (.tmp 25) (.tmp 31) 38 9 rfl Bk 5 i0 Tryd.underlying38 Tryd.underlying9 hi hz0 hz1 hz2 v0 (m) (bs ([4] ++ two16 is.length ++ itemsB (is.take j))) rfl HO4.out (B (txt x)) rfl (by rw [B_size, hlx]; unfold maxLen; omega) (by rw [B_size, hlx]; omega) (by omega) ?_; intro v5 w5 hown hg _; have HO5 := Lib.hid (show w5.ownsRow Bk 5 1 v5 (m + (B (txt x)).size) (bs ([4] ++ two16 is.length ++ itemsB (is.take j) ++ txt x)) by rw [bs_append]; exact hown); have HK5 := Lib.hid (HK4.out.trans (kp_grown HO4.out (by omega) hg)); have hzbv5 := HK5.out.1.size; clear hown hg; (try (clear d0 d1 d2 d3 d4 d5)); obtain ⟨d0, d1, d2, d3, d4, d5⟩ := facts6 (HK5.out.2 _ _ _ _ (by decide) HY.out))
          | fail)
        exact ⟨⟨v5, j + 1, m + (B (txt x)).size, rfl, by omega, by go_num, by rw [B_size, hlx]; omega, Lib.hid (by rw [← itemsB_next' hlt HX.out]; exact HO5.out), HK5⟩, by simp [intOf]; omega⟩
      · have HEQ := Lib.hid (show ([4] ++ two16 is.length ++ itemsB (is.take j) : List UInt8) = body ⟨4, t, ps, is, re, im⟩ by rw [List.take_of_length_le (by omega)]; first | (simp [body]; done) | (simp [body]; rfl))
        go_wp2_with fail
        go_ret
        exact body_out HEQ.out HO0.out HBr.out
/-- ref10.body, kind 2 -/
theorem rbody_2 (v : Value) (a : Vl) (w : World) (hv : VRd w v a) (h : RightV a) (hk : a.kind = 2) : Calls Tryd.prog 30 #[v] w (BodyOut a w) := by
  obtain ⟨i0, hi, hz0, hz1, hz2⟩ := info_parts info5
  obtain ⟨⟨PA, pc, IA, ic, rfl, hP, hI⟩, a1, a2, a3, a4, a5⟩ := hv
  have HP := Lib.hid hP; have HI := Lib.hid hI
  clear hP hI a4 a5
  obtain ⟨k, t, ps, is, re, im⟩ := a
  dsimp only at HP HI a1 a2 a3 hk ⊢
  subst hk
  unfold maxLen at a1 a2 a3
  have hrt := (right2 h.1 rfl).1 h
  dsimp only at hrt
  obtain ⟨hsh, -, hc1, hc2⟩ := hrt
  have HSH := Lib.hid hsh
  clear hsh
  clear h
  have hu := Tryd.underlying25
  have HW := Lib.hid (own_byte (w.alloc (vO 2 t PA ps.length pc IA is.length ic re im)) 2 2 rfl)
  rw [alloc_size] at HW
  have HY0 := Lib.hid (keep_block ((Below.refl _ _).alloc (Nat.le_refl _) (.cells #[.int .u8 2] 5)) (heap_alloc_new w (vO 2 t PA ps.length pc IA is.length ic re im)))
  go_enter Tryd.func30, Tryd.ntmps30
  go_upto_region 1 with fail
  go_cut [3] (fun s3 wx => ∃ (v3 : Value) (Bk : Nat), v3 = s3 ∧ w.heap.size < Bk ∧ Bk < wx.heap.size ∧ RowKit.Hid (wx.ownsRow Bk 5 1 v3 1 (bs [2])) ∧ RowKit.Hid (wx.heap[w.heap.size]? = some (.cells #[.int .i64 2, .string t, .slice PA ps.length pc, .slice IA is.length ic, .int .i64 re, .int .i64 im] 27 (0, 0))) ∧ RowKit.Hid (Below w.heap.size w wx))
  case first =>
    go_wp2
    go_meet
    exact ⟨_, w.heap.size + 1, rfl, by omega, by (first | (simp; done) | (simp; omega)), HW, HY0, Lib.hid (by ((repeat (first | exact Below.refl _ _ | (refine Below.drew ?_) | (refine Go.below_drewN ?_ _) | (refine Below.alloc ?_ (by first | (simp; done) | omega | (simp; omega)) _) | (refine Below.setCell ?_ (by first | (simp; done) | omega | (simp; omega)) _) | (refine Below.trans ?_ (Below.mono (by assumption) (by first | (simp; done) | omega | (simp; omega)))))); done))⟩
  case rest =>
    obtain ⟨v3, Bk, rfl, hB, hBc, HO, HY, HB⟩ := hcut
    obtain ⟨d0, d1, d2, d3, d4, d5⟩ := facts6 HY.out
    have HK := Lib.hid (Kp.refl Bk wc)
    have hl1 : (two16 ps.length).length = 2 := rfl
    go_upto_region 12 with (first
      | (go_at_call 32; refine Calls.mono (rtwo_is ps.length _ (by unfold maxLen; omega)) ?_; rintro e w1 ⟨rfl, hbw1⟩; have HO1 := Lib.hid (own8_below HO.out hbw1); have HK1 := Lib.hid (HK.out.trans (Kp.of_below hbw1 (by omega))); have hzw1 := HK1.out.1.size; clear hbw1; (try (clear d0 d1 d2 d3 d4 d5)); obtain ⟨d0, d1, d2, d3, d4, d5⟩ := facts6 (HK1.out.2 _ _ _ _ (by decide) HY.out))
      | (at_builtin; refine Lib.wpList_append_own_string _ rfl (.tmp 42) (.tmp 46) 38 9 rfl Bk 5 i0 Tryd.underlying38 Tryd.underlying9 hi hz0 hz1 hz2 v3 (1) (bs ([2])) rfl HO1.out (B (two16 ps.length)) rfl (by rw [B_size, hl1]; unfold maxLen; omega) (by rw [B_size, hl1]; omega) (by omega) ?_; intro v2 w2 hown hg _; have HO2 := Lib.hid (show w2.ownsRow Bk 5 1 v2 (1 + (B (two16 ps.length)).size) (bs ([2] ++ two16 ps.length)) by rw [bs_append]; exact hown); have HK2 := Lib.hid (HK1.out.trans (kp_grown HO1.out (by omega) hg)); have hzbv2 := HK2.out.1.size; clear hown hg; (try (clear d0 d1 d2 d3 d4 d5)); obtain ⟨d0, d1, d2, d3, d4, d5⟩ := facts6 (HK2.out.2 _ _ _ _ (by decide) HY.out))
      | fail)
    go_wp2_with fail
    go_loopw [3, 4] (fun s3 x wr => ∃ (v0 : Value) (j m : Nat), v0 = s3 ∧ j ≤ ps.length ∧ x = .int .i64 j ∧ m ≤ 3 + j * 2052 ∧ RowKit.Hid (wr.ownsRow Bk 5 1 v0 m (bs ([2] ++ two16 ps.length ++ pairsB (ps.take j)))) ∧ RowKit.Hid (Kp Bk wc wr)) (fun _ x _ => ps.length - (intOf x).toNat)
    case atStart => exact ⟨v2, 0, 3, rfl, Nat.zero_le _, rfl, by omega, Lib.hid (by have := HO2.out; rw [show 1 + (B (two16 ps.length)).size = 3 from rfl] at this; simpa [pairsB] using this), HK2⟩
    case round =>
      obtain ⟨v0, j, m, rfl, hj, rfl, hm, HO0, HK0⟩ := hrel
      have hzr := HK0.out.1.size
      have HBr := Lib.hid (HB.out.trans (HK0.out.1.mono (by omega)))
      clear d0 d1 d2 d3 d4 d5
      obtain ⟨d0, d1, d2, d3, d4, d5⟩ := facts6 (HK0.out.2 _ _ _ _ (by decide) HY.out)
      by_cases hlt : j < ps.length
      · obtain ⟨b1, o1, rfl⟩ := HP.out.addr (by omega)
        obtain ⟨g1, g2⟩ := (HP.out.below HBr.out).cell hlt
        obtain ⟨hxs, hys⟩ := HSH.out ps[j] (List.getElem_mem _)
        have HPC := Lib.hid (HP.out)
        obtain ⟨p, hp⟩ : ∃ p, p = ps[j] := ⟨_, rfl⟩
        rw [← hp] at g1 g2 hxs hys
        obtain ⟨x, y⟩ := p
        dsimp only at g1 g2 hxs hys
        have HX := Lib.hid hp
        clear hp
        have hlx := txt_len x
        have hly := txt_len y
        have HG2 := Lib.hid g2
        go_wp2_with (first
          | (go_at_call 53; refine Calls.mono (rtxt_is x _ (by omega)) ?_; rintro e w4 ⟨rfl, hbw4⟩; have HO4 := Lib.hid (own8_below HO0.out hbw4); have HK4 := Lib.hid (HK0.out.trans (Kp.of_below hbw4 (by omega))); have hzw4 := HK4.out.1.size; clear hbw4; (try (clear d0 d1 d2 d3 d4 d5)); obtain ⟨d0, d1, d2, d3, d4, d5⟩ := facts6 (HK4.out.2 _ _ _ _ (by decide) HY.out))
          | (at_builtin; refine Lib.wpList_append_own_string _ rfl (.tmp 55) (.tmp 62) 38 9 rfl Bk 5 i0 Tryd.underlying38 Tryd.underlying9 hi hz0 hz1 hz2 v0 (m) (bs ([2] ++ two16 ps.length ++ pairsB (ps.take j))) rfl HO4.out (B (txt x)) rfl (by rw [B_size, hlx]; unfold maxLen; omega) (by rw [B_size, hlx]; omega) (by omega) ?_; intro v5 w5 hown hg _; have HO5 := Lib.hid (show w5.ownsRow Bk 5 1 v5 (m + (B (txt x)).size) (bs ([2] ++ two16 ps.length ++ pairsB (ps.take j) ++ txt x)) by rw [bs_append]; exact hown); have HK5 := Lib.hid (HK4.out.trans (kp_grown HO4.out (by omega) hg)); have hzbv5 := HK5.out.1.size; clear hown hg; (try (clear d0 d1 d2 d3 d4 d5)); obtain ⟨d0, d1, d2, d3, d4, d5⟩ := facts6 (HK5.out.2 _ _ _ _ (by decide) HY.out); have HB5 := Lib.hid (HB.out.trans (HK5.out.1.mono (by omega))); obtain ⟨-, g3⟩ := (HP.out.below HB5.out).cell hlt; rw [← HX.out] at g3; dsimp only at g3)
          | (go_at_call 53; refine Calls.mono (rtxt_is y _ (by omega)) ?_; rintro e w6 ⟨rfl, hbw6⟩; have HO6 := Lib.hid (own8_below HO5.out hbw6); have HK6 := Lib.hid (HK5.out.trans (Kp.of_below hbw6 (by omega))); have hzw6 := HK6.out.1.size; clear hbw6; (try (clear d0 d1 d2 d3 d4 d5)); obtain ⟨d0, d1, d2, d3, d4, d5⟩ := facts6 (HK6.out.2 _ _ _ _ (by decide) HY.out))
          | (at_builtin; refine Lib.wpList_append_own_string _ rfl (.tmp 64) (.tmp 71) 38 9 rfl Bk 5 i0 Tryd.underlying38 Tryd.underlying9 hi hz0 hz1 hz2 v5 (m + (B (txt x)).size) (bs ([2] ++ two16 ps.length ++ pairsB (ps.take j) ++ txt x)) rfl HO6.out (B (txt y)) rfl (by rw [B_size, B_size, hly, hlx]; unfold maxLen; omega) (by rw [B_size, B_size, hly, hlx]; omega) (by omega) ?_; intro v7 w7 hown hg _; have HO7 := Lib.hid (show w7.ownsRow Bk 5 1 v7 (m + (B (txt x)).size + (B (txt y)).size) (bs ([2] ++ two16 ps.length ++ pairsB (ps.take j) ++ txt x ++ txt y)) by rw [bs_append]; exact hown); have HK7 := Lib.hid (HK6.out.trans (kp_grown HO6.out (by omega) hg)); have hzbv7 := HK7.out.1.size; clear hown hg; (try (clear d0 d1 d2 d3 d4 d5)); obtain ⟨d0, d1, d2, d3, d4, d5⟩ := facts6 (HK7.out.2 _ _ _ _ (by decide) HY.out))
          | fail)
        exact ⟨⟨v7, j + 1, m + (B (txt x)).size + (B (txt y)).size, rfl, by omega, by go_num, by rw [B_size, B_size, hlx, hly]; omega, Lib.hid (by rw [← pairsB_next' hlt HX.out]; exact HO7.out), HK7⟩, by simp [intOf]; omega⟩
      · have HEQ := Lib.hid (show ([2] ++ two16 ps.length ++ pairsB (ps.take j) : List UInt8) = body ⟨2, t, ps, is, re, im⟩ by rw [List.take_of_length_le (by omega)]; first | (simp [body]; done) | (simp [body]; rfl))
        go_wp2_with fail
        go_ret
        exact body_out HEQ.out HO0.out HBr.out
/-- ref10.body, kind 5 -/
theorem rbody_5 (v : Value) (a : Vl) (w : World) (hv : VRd w v a) (h : RightV a) (hk : a.kind = 5) : Calls Tryd.prog 30 #[v] w (BodyOut a w) := by
  obtain ⟨i0, hi, hz0, hz1, hz2⟩ := info_parts info5
  obtain ⟨⟨PA, pc, IA, ic, rfl, hP, hI⟩, a1, a2, a3, a4, a5⟩ := hv
  have HP := Lib.hid hP; have HI := Lib.hid hI
  clear hP hI a4 a5
  obtain ⟨k, t, ps, is, re, im⟩ := a
  dsimp only at HP HI a1 a2 a3 hk ⊢
  subst hk
  unfold maxLen at a1 a2 a3
  have hpt := (right5 h.1 rfl).1 h
  dsimp only at hpt
  obtain ⟨⟨p1, p2⟩, ⟨p3, p4⟩⟩ := hpt
  clear h
  have hu := Tryd.underlying25
  have HW := Lib.hid (own_byte (w.alloc (vO 5 t PA ps.length pc IA is.length ic re im)) 5 5 rfl)
  rw [alloc_size] at HW
  have HY0 := Lib.hid (keep_block ((Below.refl _ _).alloc (Nat.le_refl _) (.cells #[.int .u8 5] 5)) (heap_alloc_new w (vO 5 t PA ps.length pc IA is.length ic re im)))
  go_enter Tryd.func30, Tryd.ntmps30
  go_upto_region 1 with fail
  go_cut [3] (fun s3 wx => ∃ (v3 : Value) (Bk : Nat), v3 = s3 ∧ w.heap.size < Bk ∧ Bk < wx.heap.size ∧ RowKit.Hid (wx.ownsRow Bk 5 1 v3 1 (bs [5])) ∧ RowKit.Hid (wx.heap[w.heap.size]? = some (.cells #[.int .i64 5, .string t, .slice PA ps.length pc, .slice IA is.length ic, .int .i64 re, .int .i64 im] 27 (0, 0))) ∧ RowKit.Hid (Below w.heap.size w wx))
  case first =>
    go_wp2
    go_meet
    exact ⟨_, w.heap.size + 1, rfl, by omega, by (first | (simp; done) | (simp; omega)), HW, HY0, Lib.hid (by ((repeat (first | exact Below.refl _ _ | (refine Below.drew ?_) | (refine Go.below_drewN ?_ _) | (refine Below.alloc ?_ (by first | (simp; done) | omega | (simp; omega)) _) | (refine Below.setCell ?_ (by first | (simp; done) | omega | (simp; omega)) _) | (refine Below.trans ?_ (Below.mono (by assumption) (by first | (simp; done) | omega | (simp; omega)))))); done))⟩
  case rest =>
    obtain ⟨v3, Bk, rfl, hB, hBc, HO, HY, HB⟩ := hcut
    obtain ⟨d0, d1, d2, d3, d4, d5⟩ := facts6 HY.out
    have HK := Lib.hid (Kp.refl Bk wc)
    have hl1 : (part4 re).length = 4 := rfl
    have hl2 : (part4 im).length = 4 := rfl
    go_upto_region 19 with (first
      | (go_at_call 54; refine Calls.mono (rpart_is re _ p1 p2) ?_; rintro e w1 ⟨rfl, hbw1⟩; have HO1 := Lib.hid (own8_below HO.out hbw1); have HK1 := Lib.hid (HK.out.trans (Kp.of_below hbw1 (by omega))); have hzw1 := HK1.out.1.size; clear hbw1; (try (clear d0 d1 d2 d3 d4 d5)); obtain ⟨d0, d1, d2, d3, d4, d5⟩ := facts6 (HK1.out.2 _ _ _ _ (by decide) HY.out))
      | (at_builtin; refine Lib.wpList_append_own_string _ rfl (.tmp 75) (.tmp 79) 38 9 rfl Bk 5 i0 Tryd.underlying38 Tryd.underlying9 hi hz0 hz1 hz2 v3 (1) (bs ([5])) rfl HO1.out (B (part4 re)) rfl (by rw [B_size, hl1]; unfold maxLen; omega) (by rw [B_size, hl1]; omega) (by omega) ?_; intro v2 w2 hown hg _; have HO2 := Lib.hid (show w2.ownsRow Bk 5 1 v2 (1 + (B (part4 re)).size) (bs ([5] ++ part4 re)) by rw [bs_append]; exact hown); have HK2 := Lib.hid (HK1.out.trans (kp_grown HO1.out (by omega) hg)); have hzbv2 := HK2.out.1.size; clear hown hg; (try (clear d0 d1 d2 d3 d4 d5)); obtain ⟨d0, d1, d2, d3, d4, d5⟩ := facts6 (HK2.out.2 _ _ _ _ (by decide) HY.out))
      | fail)
    go_wp2_with (first
      | (go_at_call 54; refine Calls.mono (rpart_is im _ p3 p4) ?_; rintro e w4 ⟨rfl, hbw4⟩; have HO4 := Lib.hid (own8_below HO2.out hbw4); have HK4 := Lib.hid (HK2.out.trans (Kp.of_below hbw4 (by omega))); have hzw4 := HK4.out.1.size; clear hbw4; (try (clear d0 d1 d2 d3 d4 d5)); obtain ⟨d0, d1, d2, d3, d4, d5⟩ := facts6 (HK4.out.2 _ _ _ _ (by decide) HY.out))
      | (at_builtin; refine Lib.wpList_append_own_string _ rfl (.tmp 81) (.tmp 85) 38 9 rfl Bk 5 i0 Tryd.underlying38 Tryd.underlying9 hi hz0 hz1 hz2 v2 (1 + (B (part4 re)).size) (bs ([5] ++ part4 re)) rfl HO4.out (B (part4 im)) rfl (by rw [B_size, B_size, hl2, hl1]; unfold maxLen; omega) (by rw [B_size, B_size, hl2, hl1]; omega) (by omega) ?_; intro v5 w5 hown hg _; have HO5 := Lib.hid (show w5.ownsRow Bk 5 1 v5 (1 + (B (part4 re)).size + (B (part4 im)).size) (bs ([5] ++ part4 re ++ part4 im)) by rw [bs_append]; exact hown); have HK5 := Lib.hid (HK4.out.trans (kp_grown HO4.out (by omega) hg)); have hzbv5 := HK5.out.1.size; clear hown hg; (try (clear d0 d1 d2 d3 d4 d5)); obtain ⟨d0, d1, d2, d3, d4, d5⟩ := facts6 (HK5.out.2 _ _ _ _ (by decide) HY.out))
      | fail)
    go_ret
    exact body_out (by first | (simp [body]; done) | (simp [body]; rfl)) HO5.out (HB.out.trans (HK5.out.1.mono (by omega)))
end Go.Proofs.YtdpgkihecpjijaaDoor.T
