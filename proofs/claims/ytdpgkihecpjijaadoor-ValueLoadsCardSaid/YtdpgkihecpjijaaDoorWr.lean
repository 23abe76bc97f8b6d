import Derived.Deep.DeepCutAuto
import Derived.Laws.OwnMore
import Derived.OwnWalk
import Derived.Lib.AppendStr
import Derived.Laws.IdiomStrings
import Derived.Lib.ConvBytes
import Derived.Lib.SmallJoins
import Derived.IntWalk
import Derived.Deep.AppendLies
import Derived.Deep.RegionLaw
import Derived.Test.YtdpgkihecpjijaaDoorProg
import Derived.Test.YtdpgkihecpjijaaDoorMem
import Derived.Test.YtdpgkihecpjijaaDoorVi
import Derived.Test.YtdpgkihecpjijaaDoorVw
import Derived.Test.YtdpgkihecpjijaaDoorVx
import Derived.Test.YtdpgkihecpjijaaDoorWc
import Derived.Test.YtdpgkihecpjijaaDoorWf
import Derived.Test.YtdpgkihecpjijaaDoorWg
import Derived.Test.YtdpgkihecpjijaaDoorWm
import Derived.Test.YtdpgkihecpjijaaDoorWn
import Derived.WalkKit
import Derived.Outline
import Derived.WalkLawsBesides
import Derived.Deep.QuietTactic
import Derived.BigQuiet
import Derived.Lib.Hide
import Derived.Handy
import Derived.Deep.RegionHeld3
import Derived.Deep.DrawnRows
import Derived.KernelRfl
import Derived.Great.Walk
import Derived.Test.YtdpgkihecpjijaaDoorOwn
namespace Go.Proofs.YtdpgkihecpjijaaDoor.T
open Go Go.RowKit Mem Own
set_option maxRecDepth 100000
set_option maxHeartbeats 1000000
set_option linter.unusedVariables false
set_option linter.unusedSimpArgs false

theorem rbody_is (v : Value) (a : Vl) (w : World) (hv : VRd w v a) (h : RightV a) : Calls Tryd.prog 30 #[v] w (BodyOut a w) := by
  rcases h.2 with ⟨hk, _⟩ | ⟨hk, _⟩ | ⟨hk, _⟩ | ⟨hk, _⟩ | ⟨hk, _⟩
  · exact rbody_1 v a w hv h hk
  · exact rbody_2 v a w hv h hk
  · exact rbody_3 v a w hv h hk
  · exact rbody_4 v a w hv h hk
  · exact rbody_5 v a w hv h hk
def smallV (a : Vl) : Prop := a.pairs.length ≤ 2 ^ 40 ∧ a.items.length ≤ 2 ^ 40
theorem right_small {a : Vl} (h : RightV a) : smallV a := by
  have e1 := congrArg Vl.pairs h.1
  have e2 := congrArg Vl.items h.1
  unfold smallV
  rcases h.2 with ⟨hk, _⟩ | ⟨hk, _, _, _, hc⟩ | ⟨hk, _, _, hc⟩ | ⟨hk, _, _, _, hc⟩ | ⟨hk, _⟩ <;> simp [bareV, hk] at e1 e2
  · rw [e1, e2]; simp
  · rw [e2]; simp; omega
  · rw [e1]; simp; omega
  · rw [e1]; simp; omega
  · rw [e1, e2]; simp
theorem few_small {a : Vl} (h : fewV a) : smallV a := ⟨by have := h.1; omega, by have := h.2; omega⟩
theorem rright_yes (v : Value) (a : Vl) (w : World) (hv : VRd w v a) (hs : smallV a) (h : RightV a) : Calls Tryd.prog 19 #[v] w fun e w' => e = .returned (.bool true) ∧ Below w.heap.size w w' :=
  (rright_is v a w hv hs.1 hs.2).mono fun e w' ⟨r, h1, h2, h3⟩ => ⟨by rw [h1, h2.2 h], h3⟩
theorem rright_no (v : Value) (a : Vl) (w : World) (hv : VRd w v a) (hs : smallV a) (h : ¬ RightV a) : Calls Tryd.prog 19 #[v] w fun e w' => e = .returned (.bool false) ∧ Below w.heap.size w w' :=
  (rright_is v a w hv hs.1 hs.2).mono fun e w' ⟨r, h1, h2, h3⟩ => ⟨by rw [h1]; cases r; rfl; exact absurd (h2.1 rfl) h, h3⟩
theorem few_yes (v : Value) (a : Vl) (w : World) (hv : VRd w v a) (h : fewV a) : Calls Tryd.prog 11 #[v] w fun e w' => e = .returned (.bool true) ∧ Below w.heap.size w w' :=
  (few_is v a w hv).mono fun e w' ⟨r, h1, h2, h3⟩ => ⟨by rw [h1, h2.2 h], h3⟩
theorem few_no (v : Value) (a : Vl) (w : World) (hv : VRd w v a) (h : ¬ fewV a) : Calls Tryd.prog 11 #[v] w fun e w' => e = .returned (.bool false) ∧ Below w.heap.size w w' :=
  (few_is v a w hv).mono fun e w' ⟨r, h1, h2, h3⟩ => ⟨by rw [h1]; cases r; rfl; exact absurd (h2.1 rfl) h, h3⟩
theorem rsum_own {Bk n : Nat} {v : Value} {l : List UInt8} {w : World} (h : w.ownsRow Bk 5 1 v n (bs l)) (hn : l.length ≤ maxLen) :
    Calls Tryd.prog 31 #[v] w fun e w' => e = .returned (.int .u16 ((crcL 0#16 l).toNat : Int)) ∧ w = w' := by
  obtain ⟨A, c, rfl⟩ := own8_slice h
  obtain ⟨h1, rfl⟩ := own8_rd h
  exact rsum_is A l c w h1 hn
/-- ref10.Dump -/
theorem rdump_no (v : Value) (a : Vl) (w : World) (hv : VRd w v a) (hs : smallV a) (h : ¬ RightV a) :
    Calls Tryd.prog 14 #[v] w fun e w' => e = .returned (.tuple #[.string ⟨#[]⟩, .bool false]) ∧ Below w.heap.size w w' := by
  have HV := Lib.hid hv; have HN := Lib.hid h; have HS := Lib.hid hs
  obtain ⟨⟨PA, pc, IA, ic, rfl, hP, hI⟩, -, -, -, -, -⟩ := hv
  clear h hP hI hs
  obtain ⟨k, t, ps, is, re, im⟩ := a
  dsimp only at HV ⊢
  have hu := Tryd.underlying25
  go_enter Tryd.func14, Tryd.ntmps14
  go_wp2_with (go_at_call 19; refine Calls.mono (rright_no _ _ _ (HV.out.below ?_) HS.out HN.out) ?_; (focus ((repeat (first | exact Below.refl _ _ | (refine Below.drew ?_) | (refine Go.below_drewN ?_ _) | (refine Below.alloc ?_ (by first | (simp; done) | omega | (simp; omega)) _) | (refine Below.setCell ?_ (by first | (simp; done) | omega | (simp; omega)) _) | (refine Below.trans ?_ (Below.mono (by assumption) (by first | (simp; done) | omega | (simp; omega)))))); done)); rintro e w1 ⟨rfl, hb1⟩)
  go_ret2
  exact ⟨rfl, (by ((repeat (first | exact Below.refl _ _ | (refine Below.drew ?_) | (refine Go.below_drewN ?_ _) | (refine Below.alloc ?_ (by first | (simp; done) | omega | (simp; omega)) _) | (refine Below.setCell ?_ (by first | (simp; done) | omega | (simp; omega)) _) | (refine Below.trans ?_ (Below.mono (by assumption) (by first | (simp; done) | omega | (simp; omega)))))); done))⟩
theorem rdump_yes (v : Value) (a : Vl) (w : World) (hv : VRd w v a) (h : RightV a) :
    Calls Tryd.prog 14 #[v] w fun e w' => e = .returned (.tuple #[.string (B (dumpB a)), .bool true]) ∧ Below w.heap.size w w' := by
  have HV := Lib.hid hv; have HN := Lib.hid h; have HS := Lib.hid (right_small h)
  obtain ⟨⟨PA, pc, IA, ic, rfl, hP, hI⟩, -, -, -, -, -⟩ := hv
  have hlen := body_len _ h
  clear h hP hI
  obtain ⟨k, t, ps, is, re, im⟩ := a
  dsimp only at HV ⊢
  obtain ⟨b, hb⟩ : ∃ b, b = B (body ⟨k, t, ps, is, re, im⟩) := ⟨_, rfl⟩
  have hbz : b.size ≤ 600000 := by rw [hb]; exact hlen
  have HBQ := Lib.hid hb
  obtain ⟨q, hq⟩ : ∃ q, q = (crcL 0#16 (body ⟨k, t, ps, is, re, im⟩)).toNat := ⟨_, rfl⟩
  have hq16 : q < 65536 := by rw [hq]; exact BitVec.isLt _
  have HQ := Lib.hid hq
  have HWQ := Lib.hid (show IntKind.i64.wrap (q : Int) = (q : Int) by rw [IntKind.wrap_i64]; omega)
  obtain ⟨u, hux⟩ : ∃ u, u = B (two16 q) := ⟨_, rfl⟩
  have huz : u.size = 2 := by rw [hux]; rfl
  have HU := Lib.hid hux
  have hlt : ¬ (9223372036854775807 < b.size + u.size) := by omega
  have HD := Lib.hid (show b ++ u = B (dumpB ⟨k, t, ps, is, re, im⟩) by rw [hb, hux, B_add, hq]; rfl)
  have HLN := Lib.hid hlen
  clear hb hux hlen hq
  have hu := Tryd.underlying25
  go_enter Tryd.func14, Tryd.ntmps14
  go_upto_region 3 with (go_at_call 19; refine Calls.mono (rright_yes _ _ _ (HV.out.below ?_) HS.out HN.out) ?_; (focus ((repeat (first | exact Below.refl _ _ | (refine Below.drew ?_) | (refine Go.below_drewN ?_ _) | (refine Below.alloc ?_ (by first | (simp; done) | omega | (simp; omega)) _) | (refine Below.setCell ?_ (by first | (simp; done) | omega | (simp; omega)) _) | (refine Below.trans ?_ (Below.mono (by assumption) (by first | (simp; done) | omega | (simp; omega)))))); done)); rintro e w1 ⟨rfl, hb1⟩)
  rw [alloc_size] at hb1
  have HY := Lib.hid (box_blk hb1)
  obtain ⟨d0, d1, d2, d3, d4, d5⟩ := facts6 HY.out
  have HB1 := Lib.hid (box_below hb1)
  clear hb1
  have hz := HB1.out.size
  go_upto_region 5 with (first
    | (go_at_call 30; refine Calls.mono (rbody_is _ _ _ (HV.out.below HB1.out) HN.out) ?_; rintro e w2 ⟨V, n, Bk, rfl, HO, hb2⟩; have kc : (convert 38 9 V).run Tryd.prog w2.drew = .ok (.string b) w2.drew := (by rw [HBQ.out]; exact conv_own HO.out.drew (by simp [body])); have HB2 := Lib.hid (HB1.out.trans (hb2.mono hz)); clear hb2; have hz2 := HB2.out.size)
    | (go_at_call 31; refine Calls.mono (rsum_own HO.out (by have := HLN.out; unfold maxLen; omega)) ?_; rintro e w3 ⟨rfl, rfl⟩; rw [← HQ.out]))
  go_region_with (first
    | ((go_at_call 32; rw [HWQ.out]; refine Calls.mono (rtwo_is q _ (by unfold maxLen; omega)) ?_; rintro e w4 ⟨rfl, hb4⟩; rw [← HU.out]; have kc4 : (convert 38 9 V).run Tryd.prog w4 = .ok (.string b) w4 := (by rw [HBQ.out]; exact conv_own (own8_below HO.out.drew hb4) (by simp [body])))))
  all_goals
    go_wp2
    go_ret2
    rw [HD.out]
    exact ⟨rfl, (Below.drew HB2.out).trans (hb4.mono hz2)⟩
open Classical in
noncomputable def rB (a : Vl) : Bool := decide (RightV a)
open Classical in
noncomputable def dumpS (a : Vl) : ByteArray := if RightV a then B (dumpB a) else ⟨#[]⟩
theorem rB_yes {a : Vl} (h : RightV a) : rB a = true := by unfold rB; simp [h]
theorem rB_no {a : Vl} (h : ¬ RightV a) : rB a = false := by unfold rB; simp [h]
theorem dumpS_yes {a : Vl} (h : RightV a) : dumpS a = B (dumpB a) := by unfold dumpS; simp [h]
theorem dumpS_no {a : Vl} (h : ¬ RightV a) : dumpS a = ⟨#[]⟩ := by unfold dumpS; simp [h]
theorem rdump_any (v : Value) (a : Vl) (w : World) (hv : VRd w v a) (hs : smallV a) :
    Calls Tryd.prog 14 #[v] w fun e w' => e = .returned (.tuple #[.string (dumpS a), .bool (rB a)]) ∧ Below w.heap.size w w' := by
  by_cases h : RightV a
  · rw [rB_yes h, dumpS_yes h]; exact rdump_yes v a w hv h
  · rw [rB_no h, dumpS_no h]; exact rdump_no v a w hv hs h
theorem dump_any (v : Value) (a : Vl) (w : World) (hv : VRd w v a) (hh : Hv w) :
    Calls Tryd.prog 13 #[v] w fun e w' => e = .returned (.tuple #[.string (dumpS a), .bool (rB a)]) ∧ Below w.heap.size w w' := by
  by_cases h : RightV a
  · rw [rB_yes h, dumpS_yes h]; exact dump_is v a w hv h hh
  · rw [rB_no h, dumpS_no h]; exact dump_no v a w hv h
theorem right_any (v : Value) (a : Vl) (w : World) (hv : VRd w v a) :
    Calls Tryd.prog 18 #[v] w fun e w' => e = .returned (.bool (rB a)) ∧ Below w.heap.size w w' := by
  by_cases h : RightV a
  · rw [rB_yes h]; exact right_yes v a w hv h
  · rw [rB_no h]; exact right_no v a w hv h
theorem rright_any (v : Value) (a : Vl) (w : World) (hv : VRd w v a) (hs : smallV a) :
    Calls Tryd.prog 19 #[v] w fun e w' => e = .returned (.bool (rB a)) ∧ Below w.heap.size w w' := by
  by_cases h : RightV a
  · rw [rB_yes h]; exact rright_yes v a w hv hs h
  · rw [rB_no h]; exact rright_no v a w hv hs h
end Go.Proofs.YtdpgkihecpjijaaDoor.T
