import Derived.Deep.DeepCutAuto
import Derived.Laws.OwnMore
import Derived.OwnWalk
import Derived.Lib.AppendStr
import Derived.Laws.IdiomStrings
import Derived.Lib.ConvBytes
import Derived.Lib.SmallJoins
import Derived.IntWalk
import Derived.Deep.AppendLies
import Derived.Deep.RegionLaw
import Derived.Test.YtdpgkihecpjijaaDoorProg
import Derived.Test.YtdpgkihecpjijaaDoorMem
import Derived.Test.YtdpgkihecpjijaaDoorVw
import Derived.Test.YtdpgkihecpjijaaDoorVx
import Derived.Test.YtdpgkihecpjijaaDoorWc
import Derived.Test.YtdpgkihecpjijaaDoorWf
import Derived.Test.YtdpgkihecpjijaaDoorWg
import Derived.WalkKit
import Derived.Outline
import Derived.WalkLawsBesides
import Derived.Deep.QuietTactic
import Derived.BigQuiet
import Derived.Lib.Hide
import Derived.Handy
import Derived.Deep.RegionHeld3
import Derived.Deep.DrawnRows
import Derived.KernelRfl
import Derived.Great.Walk
import Derived.Test.YtdpgkihecpjijaaDoorOwn
namespace Go.Proofs.YtdpgkihecpjijaaDoor.T
open Go Go.RowKit Mem Own
set_option maxRecDepth 100000
set_option maxHeartbeats 1000000
set_option linter.unusedVariables false
set_option linter.unusedSimpArgs false

theorem own8_below {w w1 : World} {Bk n : Nat} {v : Value} {xs : List Value} (h : w.ownsRow Bk 5 1 v n xs) (hb : Below w.heap.size w w1) : w1.ownsRow Bk 5 1 v n xs := by
  refine ⟨h.1, ?_⟩
  rcases h.2 with e | ⟨g, cap, cur, e, h1, h2, h3⟩
  · exact .inl e
  · exact .inr ⟨g, cap, cur, e, h1, by rw [hb.block g (Array.getElem?_eq_some_iff.1 h2).1]; exact h2, h3⟩
/-- What ref10.body leaves. -/
def BodyOut (a : Vl) (w : World) (e : Ending) (w' : World) : Prop := ∃ (V : Value) (n Bk : Nat), e = .returned V ∧ RowKit.Hid (w'.ownsRow Bk 5 1 V n (bs (body a))) ∧ Below w.heap.size w w'
theorem body_out {a : Vl} {w w' : World} {l : List UInt8} {V : Value} {n Bk : Nat} (he : l = body a) (h : w'.ownsRow Bk 5 1 V n (bs l)) (hb : Below w.heap.size w w') : BodyOut a w (.returned V) w' := by
  subst he; exact ⟨V, n, Bk, rfl, Lib.hid h, hb⟩
theorem txt_len (s : ByteArray) : (txt s).length = 2 + s.size := by simp [txt, two16] <;> omega
theorem itemsB_next' {is : List ByteArray} {j : Nat} (hj : j < is.length) {x : ByteArray} (hx : x = is[j]) (hd : List UInt8) : hd ++ itemsB (is.take j) ++ txt x = hd ++ itemsB (is.take (j + 1)) := by
  rw [List.take_succ_eq_append_getElem hj, ← hx]
  simp [itemsB, txt]
theorem pairsB_next' {ps : List (ByteArray × ByteArray)} {j : Nat} (hj : j < ps.length) {x y : ByteArray} (hx : (x, y) = ps[j]) (hd : List UInt8) : hd ++ pairsB (ps.take j) ++ txt x ++ txt y = hd ++ pairsB (ps.take (j + 1)) := by
  rw [List.take_succ_eq_append_getElem hj, ← hx]
  simp [pairsB, txt]
/-- ref10.body, kind 1 -/
theorem rbody_1 (v : Value) (a : Vl) (w : World) (hv : VRd w v a) (h : RightV a) (hk : a.kind = 1) : Calls Tryd.prog 30 #[v] w (BodyOut a w) := by
  obtain ⟨i0, hi, hz0, hz1, hz2⟩ := info_parts info5
  obtain ⟨⟨PA, pc, IA, ic, rfl, hP, hI⟩, a1, a2, a3, a4, a5⟩ := hv
  have HP := Lib.hid hP; have HI := Lib.hid hI
  clear hP hI a4 a5
  obtain ⟨k, t, ps, is, re, im⟩ := a
  dsimp only at HP HI a1 a2 a3 hk ⊢
  subst hk
  unfold maxLen at a1 a2 a3
  have hts := (right1 h.1 rfl).1 h
  dsimp only at hts
  clear h
  have hu := Tryd.underlying25
  have HW := Lib.hid (own_byte (w.alloc (vO 1 t PA ps.length pc IA is.length ic re im)) 1 1 rfl)
  rw [alloc_size] at HW
  have HY0 := Lib.hid (keep_block ((Below.refl _ _).alloc (Nat.le_refl _) (.cells #[.int .u8 1] 5)) (heap_alloc_new w (vO 1 t PA ps.length pc IA is.length ic re im)))
  go_enter Tryd.func30, Tryd.ntmps30
  go_upto_region 1 with fail
  go_cut [3] (fun s3 wx => ∃ (v3 : Value) (Bk : Nat), v3 = s3 ∧ w.heap.size < Bk ∧ Bk < wx.heap.size ∧ RowKit.Hid (wx.ownsRow Bk 5 1 v3 1 (bs [1])) ∧ RowKit.Hid (wx.heap[w.heap.size]? = some (.cells #[.int .i64 1, .string t, .slice PA ps.length pc, .slice IA is.length ic, .int .i64 re, .int .i64 im] 27 (0, 0))) ∧ RowKit.Hid (Below w.heap.size w wx))
  case first =>
    go_wp2
    go_meet
    exact ⟨_, w.heap.size + 1, rfl, by omega, by (first | (simp; done) | (simp; omega)), HW, HY0, Lib.hid (by ((repeat (first | exact Below.refl _ _ | (refine Below.drew ?_) | (refine Go.below_drewN ?_ _) | (refine Below.alloc ?_ (by first | (simp; done) | omega | (simp; omega)) _) | (refine Below.setCell ?_ (by first | (simp; done) | omega | (simp; omega)) _) | (refine Below.trans ?_ (Below.mono (by assumption) (by first | (simp; done) | omega | (simp; omega)))))); done))⟩
  case rest =>
    obtain ⟨v3, Bk, rfl, hB, hBc, HO, HY, HB⟩ := hcut
    obtain ⟨d0, d1, d2, d3, d4, d5⟩ := facts6 HY.out
    have HK := Lib.hid (Kp.refl Bk wc)
    have hl1 := txt_len t
    go_wp2_with (first
      | (go_at_call 53; refine Calls.mono (rtxt_is t _ (by omega)) ?_; rintro e w1 ⟨rfl, hbw1⟩; have HO1 := Lib.hid (own8_below HO.out hbw1); have HK1 := Lib.hid (HK.out.trans (Kp.of_below hbw1 (by omega))); have hzw1 := HK1.out.1.size; clear hbw1; (try (clear d0 d1 d2 d3 d4 d5)); obtain ⟨d0, d1, d2, d3, d4, d5⟩ := facts6 (HK1.out.2 _ _ _ _ (by decide) HY.out))
      | (at_builtin; refine Lib.wpList_append_own_string _ rfl (.tmp 35) (.tmp 38) 38 9 rfl Bk 5 i0 Tryd.underlying38 Tryd.underlying9 hi hz0 hz1 hz2 v3 (1) (bs ([1])) rfl HO1.out (B (txt t)) rfl (by rw [B_size, hl1]; unfold maxLen; omega) (by rw [B_size, hl1]; omega) (by omega) ?_; intro v2 w2 hown hg _; have HO2 := Lib.hid (show w2.ownsRow Bk 5 1 v2 (1 + (B (txt t)).size) (bs ([1] ++ txt t)) by rw [bs_append]; exact hown); have HK2 := Lib.hid (HK1.out.trans (kp_grown HO1.out (by omega) hg)); have hzbv2 := HK2.out.1.size; clear hown hg; (try (clear d0 d1 d2 d3 d4 d5)); obtain ⟨d0, d1, d2, d3, d4, d5⟩ := facts6 (HK2.out.2 _ _ _ _ (by decide) HY.out))
      | fail)
    go_ret
    exact body_out (by first | (simp [body]; done) | (simp [body]; rfl)) HO2.out (HB.out.trans (HK2.out.1.mono (by omega)))
end Go.Proofs.YtdpgkihecpjijaaDoor.T
