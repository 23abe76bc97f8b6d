import Derived.Deep.DeepCutAuto
import Derived.Laws.OwnMore
import Derived.OwnWalk
import Derived.Lib.AppendStr
import Derived.Laws.IdiomStrings
import Derived.Lib.ConvBytes
import Derived.Lib.SmallJoins
import Derived.IntWalk
import Derived.Deep.AppendLies
import Derived.Deep.RegionLaw
import Derived.Test.YtdpgkihecpjijaaDoorProg
import Derived.Test.YtdpgkihecpjijaaDoorMem
import Derived.Test.YtdpgkihecpjijaaDoorVw
import Derived.Test.YtdpgkihecpjijaaDoorVx
import Derived.Test.YtdpgkihecpjijaaDoorVy
import Derived.Test.YtdpgkihecpjijaaDoorWb
import Derived.WalkKit
import Derived.Outline
import Derived.WalkLawsBesides
import Derived.Deep.QuietTactic
import Derived.BigQuiet
import Derived.Lib.Hide
import Derived.Handy
import Derived.Deep.RegionHeld3
import Derived.Deep.DrawnRows
import Derived.KernelRfl
import Derived.Sort.Walk0
import Derived.Great.Walk
import Derived.Test.YtdpgkihecpjijaaDoorOwn
namespace Go.Proofs.YtdpgkihecpjijaaDoor.T
open Go Go.RowKit Mem Own
set_option maxRecDepth 100000
set_option maxHeartbeats 1000000
set_option linter.unusedVariables false
set_option linter.unusedSimpArgs false

theorem rsame_yes (v u : Value) (a b : Vl) (w : World) (hv : VRd w v a) (hu : VRd w u b) (h : a = b) : Calls Tryd.prog 17 #[v, u] w fun e w' => e = .returned (.bool true) ∧ Below w.heap.size w w' :=
  (rsame_is v u a b w hv hu).mono fun e w' ⟨r, h1, h2, h3⟩ => ⟨by rw [h1, h2.2 h], h3⟩
theorem rsame_no (v u : Value) (a b : Vl) (w : World) (hv : VRd w v a) (hu : VRd w u b) (h : ¬ a = b) : Calls Tryd.prog 17 #[v, u] w fun e w' => e = .returned (.bool false) ∧ Below w.heap.size w w' :=
  (rsame_is v u a b w hv hu).mono fun e w' ⟨r, h1, h2, h3⟩ => ⟨by rw [h1]; cases r; rfl; exact absurd (h2.1 rfl) h, h3⟩
theorem items_len (l : List ByteArray) (h : itemsShort l) : (itemsB l).length ≤ l.length * 1026 := by
  induction l with
  | nil => simp [itemsB]
  | cons x l ih =>
    have h1 := h x (by simp)
    have h2 := ih fun y hy => h y (List.mem_cons_of_mem _ hy)
    simp [itemsB, txt, two16] at h2 ⊢
    omega
theorem pairs_len (l : List (ByteArray × ByteArray)) (h : pairsShort l) : (pairsB l).length ≤ l.length * 2052 := by
  induction l with
  | nil => simp [pairsB]
  | cons x l ih =>
    have h1 := h x (by simp)
    have h2 := ih fun y hy => h y (List.mem_cons_of_mem _ hy)
    simp [pairsB, txt, two16] at h2 ⊢
    omega
theorem body_len (a : Vl) (h : RightV a) : (body a).length ≤ 600000 := by
  unfold body
  rcases h.2 with ⟨hk, h1⟩ | ⟨hk, h1, h2, h3⟩ | ⟨hk, h1, h2⟩ | ⟨hk, h1, h2, h3⟩ | ⟨hk, h1⟩
  · rw [if_pos hk]; simp [txt, two16]; omega
  · rw [if_neg (by omega), if_pos hk]; have := pairs_len _ h1; have := h3.2; simp [two16]; omega
  · rw [if_neg (by omega), if_neg (by omega), if_pos (by omega)]; have := items_len _ h1; have := h2.2; simp [two16]; omega
  · rw [if_neg (by omega), if_neg (by omega), if_pos (by omega)]; have := items_len _ h2; have := h3.2; simp [two16]; omega
  · rw [if_neg (by omega), if_neg (by omega), if_neg (by omega), if_pos hk]; simp [part4]
theorem dump_size (a : Vl) (h : RightV a) : (B (dumpB a)).size ≤ maxLen := by
  have := body_len a h
  rw [B_size]; simp [dumpB, sumB, two16]; unfold maxLen; omega
/-- ValueBack -/
theorem back_is (v : Value) (a : Vl) (w : World) (hv : VRd w v a) (hh : Hv w) : Calls Tryd.prog 5 #[v] w fun e w' => e = .returned (.bool true) ∧ Below w.heap.size w w' := by
  have HV := Lib.hid hv; have HH := Lib.hid hh
  obtain ⟨⟨PA, pc, IA, ic, rfl, -, -⟩, -⟩ := hv
  obtain ⟨k, t, ps, is, re, im⟩ := a
  dsimp only at HV ⊢
  clear hh
  have hu := Tryd.underlying25
  by_cases hr : RightV ⟨k, t, ps, is, re, im⟩
  · obtain ⟨s, hs⟩ : ∃ s, s = B (dumpB ⟨k, t, ps, is, re, im⟩) := ⟨_, rfl⟩
    have HL := Lib.hid (show loadV s = (⟨k, t, ps, is, re, im⟩, 0) by rw [hs]; exact load_dump _ hr)
    have hsz : s.size ≤ maxLen := by rw [hs]; exact dump_size _ hr
    have HS := Lib.hid hs; have HR := Lib.hid hr
    clear hs hr
    go_enter Tryd.func5, Tryd.ntmps5
    go_wp2_with (first
      | (go_at_call 13; refine Calls.mono (dump_is _ _ _ (HV.out.below ?_) HR.out (HH.out.below ?_)) ?_; (focus ((repeat (first | exact Below.refl _ _ | (refine Below.drew ?_) | (refine Go.below_drewN ?_ _) | (refine Below.alloc ?_ (by first | (simp; done) | omega | (simp; omega)) _) | (refine Below.setCell ?_ (by first | (simp; done) | omega | (simp; omega)) _) | (refine Below.trans ?_ (Below.mono (by assumption) (by first | (simp; done) | omega | (simp; omega)))))); done)); (focus ((repeat (first | exact Below.refl _ _ | (refine Below.drew ?_) | (refine Go.below_drewN ?_ _) | (refine Below.alloc ?_ (by first | (simp; done) | omega | (simp; omega)) _) | (refine Below.setCell ?_ (by first | (simp; done) | omega | (simp; omega)) _) | (refine Below.trans ?_ (Below.mono (by assumption) (by first | (simp; done) | omega | (simp; omega)))))); done)); rintro e w1 ⟨rfl, hb1⟩; rw [alloc_size] at hb1; have hz1 := hb1.size; rw [alloc_size] at hz1; have HX1 := Lib.hid (box_blk hb1); obtain ⟨d0, d1, d2, d3, d4, d5⟩ := facts6 HX1.out; rw [show (⟨(dumpB ⟨k, t, ps, is, re, im⟩).toArray⟩ : ByteArray) = s from HS.out.symm])
      | (go_at_call 15; refine Calls.mono (load_as _ HL.out hsz (HH.out.below ?_)) ?_; (focus ((repeat (first | exact Below.refl _ _ | (refine Below.drew ?_) | (refine Go.below_drewN ?_ _) | (refine Below.alloc ?_ (by first | (simp; done) | omega | (simp; omega)) _) | (refine Below.setCell ?_ (by first | (simp; done) | omega | (simp; omega)) _) | (refine Below.trans ?_ (Below.mono (by assumption) (by first | (simp; done) | omega | (simp; omega)))))); done)); rintro e w2 ⟨PB, qc, IB, jc, rfl, HU, hb2⟩; have hz2 := hb2.size; have HX2 := Lib.hid (keep_block hb2 HX1.out))
      | (go_at_call 12; refine Calls.mono (alive_is _ (HH.out.below ?_)) ?_; (focus ((repeat (first | exact Below.refl _ _ | (refine Below.drew ?_) | (refine Go.below_drewN ?_ _) | (refine Below.alloc ?_ (by first | (simp; done) | omega | (simp; omega)) _) | (refine Below.setCell ?_ (by first | (simp; done) | omega | (simp; omega)) _) | (refine Below.trans ?_ (Below.mono (by assumption) (by first | (simp; done) | omega | (simp; omega)))))); done)); rintro e w4 ⟨rfl, hb4⟩; have hz4 := hb4.size; rw [alloc_size] at hz4; have HX4 := Lib.hid (keep_block hb4 (keep_block ((Below.refl _ _).alloc (Nat.le_refl _) _) HX2.out)); obtain ⟨d0, d1, d2, d3, d4, d5⟩ := facts6 HX4.out; have HY4 := Lib.hid (keep_block hb4 (heap_alloc_new _ _)); obtain ⟨e0, e1, e2, e3, e4, e5⟩ := facts6 HY4.out)
      | (go_at_call 17; refine Calls.mono (rsame_yes _ _ _ _ _ (HV.out.below ?_) (HU.out.below ?_) rfl) ?_; (focus ((repeat (first | exact Below.refl _ _ | (refine Below.drew ?_) | (refine Go.below_drewN ?_ _) | (refine Below.alloc ?_ (by first | (simp; done) | omega | (simp; omega)) _) | (refine Below.setCell ?_ (by first | (simp; done) | omega | (simp; omega)) _) | (refine Below.trans ?_ (Below.mono (by assumption) (by first | (simp; done) | omega | (simp; omega)))))); done)); (focus ((repeat (first | exact Below.refl _ _ | (refine Below.drew ?_) | (refine Go.below_drewN ?_ _) | (refine Below.alloc ?_ (by first | (simp; done) | omega | (simp; omega)) _) | (refine Below.setCell ?_ (by first | (simp; done) | omega | (simp; omega)) _) | (refine Below.trans ?_ (Below.mono (by assumption) (by first | (simp; done) | omega | (simp; omega)))))); done)); rintro e w5 ⟨rfl, hb5⟩))
    go_ret
    exact ⟨rfl, (by ((repeat (first | exact Below.refl _ _ | (refine Below.drew ?_) | (refine Go.below_drewN ?_ _) | (refine Below.alloc ?_ (by first | (simp; done) | omega | (simp; omega)) _) | (refine Below.setCell ?_ (by first | (simp; done) | omega | (simp; omega)) _) | (refine Below.trans ?_ (Below.mono (by assumption) (by first | (simp; done) | omega | (simp; omega)))))); done))⟩
  · have HR := Lib.hid hr
    have HL := Lib.hid (show loadV ⟨#[]⟩ = (⟨0, ⟨#[]⟩, [], [], 0, 0⟩, 100) by unfold loadV; rw [if_pos (by decide)]; rfl)
    clear hr
    go_enter Tryd.func5, Tryd.ntmps5
    go_wp2_with (first
      | (go_at_call 13; refine Calls.mono (dump_no _ _ _ (HV.out.below ?_) HR.out) ?_; (focus ((repeat (first | exact Below.refl _ _ | (refine Below.drew ?_) | (refine Go.below_drewN ?_ _) | (refine Below.alloc ?_ (by first | (simp; done) | omega | (simp; omega)) _) | (refine Below.setCell ?_ (by first | (simp; done) | omega | (simp; omega)) _) | (refine Below.trans ?_ (Below.mono (by assumption) (by first | (simp; done) | omega | (simp; omega)))))); done)); rintro e w1 ⟨rfl, hb1⟩; rw [alloc_size] at hb1; have hz1 := hb1.size; rw [alloc_size] at hz1; have HX1 := Lib.hid (box_blk hb1); obtain ⟨d0, d1, d2, d3, d4, d5⟩ := facts6 HX1.out)
      | (go_at_call 15; refine Calls.mono (load_as _ HL.out (by decide) (HH.out.below ?_)) ?_; (focus ((repeat (first | exact Below.refl _ _ | (refine Below.drew ?_) | (refine Go.below_drewN ?_ _) | (refine Below.alloc ?_ (by first | (simp; done) | omega | (simp; omega)) _) | (refine Below.setCell ?_ (by first | (simp; done) | omega | (simp; omega)) _) | (refine Below.trans ?_ (Below.mono (by assumption) (by first | (simp; done) | omega | (simp; omega)))))); done)); rintro e w2 ⟨PB, qc, IB, jc, rfl, HU, hb2⟩; have hz2 := hb2.size)
      | (go_at_call 12; refine Calls.mono (alive_is _ (HH.out.below ?_)) ?_; (focus ((repeat (first | exact Below.refl _ _ | (refine Below.drew ?_) | (refine Go.below_drewN ?_ _) | (refine Below.alloc ?_ (by first | (simp; done) | omega | (simp; omega)) _) | (refine Below.setCell ?_ (by first | (simp; done) | omega | (simp; omega)) _) | (refine Below.trans ?_ (Below.mono (by assumption) (by first | (simp; done) | omega | (simp; omega)))))); done)); rintro e w4 ⟨rfl, hb4⟩))
    go_ret
    exact ⟨rfl, (by ((repeat (first | exact Below.refl _ _ | (refine Below.drew ?_) | (refine Go.below_drewN ?_ _) | (refine Below.alloc ?_ (by first | (simp; done) | omega | (simp; omega)) _) | (refine Below.setCell ?_ (by first | (simp; done) | omega | (simp; omega)) _) | (refine Below.trans ?_ (Below.mono (by assumption) (by first | (simp; done) | omega | (simp; omega)))))); done))⟩
end Go.Proofs.YtdpgkihecpjijaaDoor.T
