import Derived.Deep.DeepCutAuto
import Derived.Laws.OwnMore
import Derived.OwnWalk
import Derived.Lib.AppendStr
import Derived.Laws.IdiomStrings
import Derived.Lib.ConvBytes
import Derived.Lib.SmallJoins
import Derived.IntWalk
import Derived.Deep.AppendLies
import Derived.Deep.RegionLaw
import Derived.Test.YtdpgkihecpjijaaDoorProg
import Derived.Test.YtdpgkihecpjijaaDoorMem
import Derived.Test.YtdpgkihecpjijaaDoorVs
import Derived.Test.YtdpgkihecpjijaaDoorVt
import Derived.Test.YtdpgkihecpjijaaDoorVu
import Derived.Test.YtdpgkihecpjijaaDoorVw
import Derived.Test.YtdpgkihecpjijaaDoorVx
import Derived.Test.YtdpgkihecpjijaaDoorVy
import Derived.Test.YtdpgkihecpjijaaDoorWb
import Derived.Test.YtdpgkihecpjijaaDoorWc
import Derived.Test.YtdpgkihecpjijaaDoorWe
import Derived.Test.YtdpgkihecpjijaaDoorWf
import Derived.Test.YtdpgkihecpjijaaDoorWw
import Derived.Test.YtdpgkihecpjijaaDoorXj
import Derived.Test.YtdpgkihecpjijaaDoorXk
import Derived.Test.YtdpgkihecpjijaaDoorXl
import Derived.WalkKit
import Derived.Outline
import Derived.WalkLawsBesides
import Derived.Deep.QuietTactic
import Derived.BigQuiet
import Derived.Lib.Hide
import Derived.Handy
import Derived.Deep.RegionHeld3
import Derived.Deep.DrawnRows
import Derived.KernelRfl
import Derived.Great.Walk
import Derived.Test.YtdpgkihecpjijaaDoorOwn
namespace Go.Proofs.YtdpgkihecpjijaaDoor.T
open Go Go.RowKit Mem Own
set_option maxRecDepth 100000
set_option maxHeartbeats 1000000
set_option linter.unusedVariables false
set_option linter.unusedSimpArgs false

theorem mut_ne {ps : List (ByteArray × ByteArray)} {is : List ByteArray} (k : Int) (t : ByteArray) (re im : Int) (h : ¬ is.length + ps.length = 0) : ¬ (⟨k, t, ps, is, re, im⟩ : Vl) = ⟨k, t, ps.map (fun p => (qm p.1, p.2)), is.map qm, re, im⟩ := by
  intro e
  have e1 := congrArg Vl.pairs e
  have e2 := congrArg Vl.items e
  dsimp only at e1 e2
  cases is with
  | cons x l =>
    rw [List.map_cons] at e2
    injection e2 with e2 _
    have := congrArg ByteArray.size e2
    rw [qm_size] at this
    omega
  | nil =>
    cases ps with
    | nil => exact h rfl
    | cons p l =>
      rw [List.map_cons] at e1
      injection e1 with e1 _
      have := congrArg (fun q : ByteArray × ByteArray => q.1.size) e1
      dsimp only at this
      rw [qm_size] at this
      omega
set_option maxHeartbeats 2000000 in
/-- ValueSame -/
theorem same_is (v u : Value) (a b : Vl) (w : World) (hv : VRd w v a) (hu : VRd w u b) (hz : SzV a) (hh : Hv w) : Calls Tryd.prog 10 #[v, u] w fun e w' => e = .returned (.bool true) ∧ Below w.heap.size w w' := by
  have HV := Lib.hid hv; have HU := Lib.hid hu; have HH := Lib.hid hh; have HSZ := Lib.hid hz
  obtain ⟨⟨PA, pc, IA, ic, rfl, -, -⟩, np, ni, nt, -, -⟩ := hv
  obtain ⟨⟨PB, qc, IB, jc, rfl, -, -⟩, -⟩ := hu
  obtain ⟨k, t, ps, is, re, im⟩ := a
  obtain ⟨k2, t2, qs, js, re2, im2⟩ := b
  dsimp only at HV HU HSZ np ni nt ⊢
  clear hh hz
  have hu := Tryd.underlying25
  have hn1 := HSZ.out.np
  have hn2 := HSZ.out.ni
  dsimp only at hn1 hn2
  have NT := Lib.hid nt; have NP := Lib.hid np; have NI := Lib.hid ni
  clear np ni nt
  have HBA := Lib.hid (keep_block ((Below.refl _ _).alloc (Nat.le_refl _) (vO k2 t2 PB qs.length qc IB js.length jc re2 im2)) (heap_alloc_new w (vO k t PA ps.length pc IA is.length ic re im)))
  have HBB := Lib.hid (box2 (w := w) (o := vO k t PA ps.length pc IA is.length ic re im) (o2 := vO k2 t2 PB qs.length qc IB js.length jc re2 im2))
  go_enter Tryd.func10, Tryd.ntmps10
  go_upto_region 1 with fail
  go_cut [2, 3, 5] (fun s2 s3 s5 wx => ∃ (C : Option Addr) (ck : Nat) (D : Option Addr) (dk : Nat) (b5 : Nat), s2 = .pointer (some ⟨w.heap.size, 0, none⟩) ∧ s3 = .pointer (some ⟨w.heap.size + 1, 0, none⟩) ∧ s5 = .pointer (some ⟨b5, 0, none⟩) ∧
      RowKit.Hid (SmSt w (vO k t PA ps.length pc IA is.length ic re im) (vO k2 t2 PB qs.length qc IB js.length jc re2 im2) k t re im C ps.length ck D is.length dk b5 (psv ps) (vs is) wx))
  case first =>
    go_wp2_with (go_at_call 24; refine Calls.mono (copy_is _ ⟨k, t, ps, is, re, im⟩ _ (HV.out.below ?_) hn1 hn2) ?_; (focus ((repeat (first | exact Below.refl _ _ | (refine Below.drew ?_) | (refine Go.below_drewN ?_ _) | (refine Below.alloc ?_ (by first | (simp; done) | omega | (simp; omega)) _) | (refine Below.setCell ?_ (by first | (simp; done) | omega | (simp; omega)) _) | (refine Below.trans ?_ (Below.mono (by assumption) (by first | (simp; done) | omega | (simp; omega)))))); done)); rintro e w1 ⟨C, ck, D, dk, rfl, HO1, HO2, hb1⟩)
    go_meet
    have hz1 := hb1.size
    have hsz : ((w.alloc (vO k t PA ps.length pc IA is.length ic re im)).alloc (vO k2 t2 PB qs.length qc IB js.length jc re2 im2)).heap.size = w.heap.size + 2 := by rw [alloc_size, alloc_size]
    have hb1' : Below (w.heap.size + 2) ((w.alloc (vO k t PA ps.length pc IA is.length ic re im)).alloc (vO k2 t2 PB qs.length qc IB js.length jc re2 im2)) w1 := hsz ▸ hb1
    have hz1' : w.heap.size + 2 ≤ w1.heap.size := by rw [← hsz]; exact hz1
    have ba := (Below.refl w1.heap.size w1).alloc (Nat.le_refl _) (vO k t C ps.length ck D is.length dk re im)
    refine ⟨C, ck, D, dk, w1.heap.size, rfl, rfl, rfl, Lib.hid ⟨keep_block ba (keep_block hb1 HBA.out), keep_block ba (keep_block hb1 HBB.out), heap_alloc_new _ _, by omega, own_bel (own_mono HO1.out (Nat.le_of_eq hsz.symm)) ba, own_bel (own_mono HO2.out (Nat.le_of_eq hsz.symm)) ba, ?_⟩⟩
    exact ((((Below.refl w.heap.size w).alloc (Nat.le_refl _) _).alloc (by rw [alloc_size]; omega) _).trans (hb1'.mono (by omega))).alloc (by omega) _
  case rest =>
    obtain ⟨C, ck, D, dk, b5, rfl, rfl, rfl, HST⟩ := hcut
    have HVC := Lib.hid (HST.out.vrd NP.out NI.out NT.out (fun p hp => by have := HSZ.out.pz p hp; unfold maxLen; omega) (fun x hx => by have := HSZ.out.iz x hx; unfold maxLen; omega))
    obtain ⟨eab, heab⟩ : ∃ x, x = eB ⟨k, t, ps, is, re, im⟩ ⟨k2, t2, qs, js, re2, im2⟩ := ⟨_, rfl⟩
    have HEAB := Lib.hid heab
    clear heab
    go_upto_region 2 with fail
    go_cut [2, 3, 5, 6] (fun s2 s3 s5 s6 wx => s2 = .pointer (some ⟨w.heap.size, 0, none⟩) ∧ s3 = .pointer (some ⟨w.heap.size + 1, 0, none⟩) ∧ s5 = .pointer (some ⟨b5, 0, none⟩) ∧ s6 = .bool true ∧
        RowKit.Hid (SmSt w (vO k t PA ps.length pc IA is.length ic re im) (vO k2 t2 PB qs.length qc IB js.length jc re2 im2) k t re im C ps.length ck D is.length dk b5 (psv ps) (vs is) wx))
    case first =>
      obtain ⟨a0, a1, a2, a3, a4, a5⟩ := facts6 HST.out.ha
      obtain ⟨b0, b1, b2, b3, b4, b5'⟩ := facts6 HST.out.hb
      obtain ⟨c0, c1, c2, c3, c4, c5⟩ := facts6 HST.out.hc
      have h5 := HST.out.h5
      have hl5 := lt_of_block HST.out.hc
      have HBL := Lib.hid HST.out.bl
      go_region_held3 (fun w' => w'.cell? ⟨w.heap.size, 0, none⟩ = some (.int .i64 k) ∧ w'.cell? ⟨w.heap.size, 1, none⟩ = some (.string t) ∧ w'.cell? ⟨w.heap.size, 2, none⟩ = some (.slice PA ps.length pc) ∧ w'.cell? ⟨w.heap.size, 3, none⟩ = some (.slice IA is.length ic) ∧ w'.cell? ⟨w.heap.size, 4, none⟩ = some (.int .i64 re) ∧ w'.cell? ⟨w.heap.size, 5, none⟩ = some (.int .i64 im) ∧
          w'.cell? ⟨w.heap.size + 1, 0, none⟩ = some (.int .i64 k2) ∧ w'.cell? ⟨w.heap.size + 1, 1, none⟩ = some (.string t2) ∧ w'.cell? ⟨w.heap.size + 1, 2, none⟩ = some (.slice PB qs.length qc) ∧ w'.cell? ⟨w.heap.size + 1, 3, none⟩ = some (.slice IB js.length jc) ∧ w'.cell? ⟨w.heap.size + 1, 4, none⟩ = some (.int .i64 re2) ∧ w'.cell? ⟨w.heap.size + 1, 5, none⟩ = some (.int .i64 im2) ∧
          w'.cell? ⟨b5, 0, none⟩ = some (.int .i64 k) ∧ w'.cell? ⟨b5, 1, none⟩ = some (.string t) ∧ w'.cell? ⟨b5, 2, none⟩ = some (.slice C ps.length ck) ∧ w'.cell? ⟨b5, 3, none⟩ = some (.slice D is.length dk) ∧ w'.cell? ⟨b5, 4, none⟩ = some (.int .i64 re) ∧ w'.cell? ⟨b5, 5, none⟩ = some (.int .i64 im) ∧ Below wc.heap.size wc w')
        (((refine ⟨?_, ?_, ?_, ?_, ?_, ?_, ?_, ?_, ?_, ?_, ?_, ?_, ?_, ?_, ?_, ?_, ?_, ?_, ?_⟩ <;> (first | ((repeat (first | exact Below.refl _ _ | (refine Below.drew ?_) | (refine Go.below_drewN ?_ _) | (refine Below.alloc ?_ (by first | (simp; done) | omega | (simp; omega)) _) | (refine Below.setCell ?_ (by first | (simp; done) | omega | (simp; omega)) _) | (refine Below.trans ?_ (Below.mono (by assumption) (by first | (simp; done) | omega | (simp; omega)))))); done) | (simp [go_sem]; done) | (rw [hb3.cell (by first | (simp; done) | omega | (simp; omega))]; (first | (simp only [*]; done) | (simp [go_sem]; done) | (simp [*, go_sem]; done))) | (rw [hb2.cell (by first | (simp; done) | omega | (simp; omega))]; (first | (simp only [*]; done) | (simp [go_sem]; done) | (simp [*, go_sem]; done))) | (rw [hb1.cell (by first | (simp; done) | omega | (simp; omega))]; (first | (simp only [*]; done) | (simp [go_sem]; done) | (simp [*, go_sem]; done))) | (simp [*, go_sem]; done)))))
        (first
          | ((fail_if_success (have := hb1)); go_at_call 25; refine Calls.mono (vsame_any _ _ ⟨k, t, ps, is, re, im⟩ ⟨k2, t2, qs, js, re2, im2⟩ _ ((HV.out.below HBL.out).below ?_) ((HU.out.below HBL.out).below ?_)) ?_; (focus ((repeat (first | exact Below.refl _ _ | (refine Below.drew ?_) | (refine Go.below_drewN ?_ _) | (refine Below.alloc ?_ (by first | (simp; done) | omega | (simp; omega)) _) | (refine Below.setCell ?_ (by first | (simp; done) | omega | (simp; omega)) _) | (refine Below.trans ?_ (Below.mono (by assumption) (by first | (simp; done) | omega | (simp; omega)))))); done)); (focus ((repeat (first | exact Below.refl _ _ | (refine Below.drew ?_) | (refine Go.below_drewN ?_ _) | (refine Below.alloc ?_ (by first | (simp; done) | omega | (simp; omega)) _) | (refine Below.setCell ?_ (by first | (simp; done) | omega | (simp; omega)) _) | (refine Below.trans ?_ (Below.mono (by assumption) (by first | (simp; done) | omega | (simp; omega)))))); done)); rintro e w1 ⟨rfl, hb1⟩; rw [← HEAB.out]; have hz1 : wc.heap.size ≤ w1.heap.size := (by have := hb1.size; (try simp at this); omega))
          | (go_at_call 17; refine Calls.mono (rsame_any _ _ ⟨k, t, ps, is, re, im⟩ ⟨k2, t2, qs, js, re2, im2⟩ _ ((HV.out.below HBL.out).below ?_) ((HU.out.below HBL.out).below ?_)) ?_; (focus ((repeat (first | exact Below.refl _ _ | (refine Below.drew ?_) | (refine Go.below_drewN ?_ _) | (refine Below.alloc ?_ (by first | (simp; done) | omega | (simp; omega)) _) | (refine Below.setCell ?_ (by first | (simp; done) | omega | (simp; omega)) _) | (refine Below.trans ?_ (Below.mono (by assumption) (by first | (simp; done) | omega | (simp; omega)))))); done)); (focus ((repeat (first | exact Below.refl _ _ | (refine Below.drew ?_) | (refine Go.below_drewN ?_ _) | (refine Below.alloc ?_ (by first | (simp; done) | omega | (simp; omega)) _) | (refine Below.setCell ?_ (by first | (simp; done) | omega | (simp; omega)) _) | (refine Below.trans ?_ (Below.mono (by assumption) (by first | (simp; done) | omega | (simp; omega)))))); done)); rintro e w2 ⟨rfl, hb2⟩; rw [← HEAB.out]; have hz2 : wc.heap.size ≤ w2.heap.size := (by have := hb2.size; (try simp at this); omega))
          | (go_at_call 25; refine Calls.mono (vsame_yes _ _ ⟨k, t, ps, is, re, im⟩ ⟨k, t, ps, is, re, im⟩ _ ((HV.out.below HBL.out).below ?_) (HVC.out.below ?_) rfl) ?_; (focus ((repeat (first | exact Below.refl _ _ | (refine Below.drew ?_) | (refine Go.below_drewN ?_ _) | (refine Below.alloc ?_ (by first | (simp; done) | omega | (simp; omega)) _) | (refine Below.setCell ?_ (by first | (simp; done) | omega | (simp; omega)) _) | (refine Below.trans ?_ (Below.mono (by assumption) (by first | (simp; done) | omega | (simp; omega)))))); done)); (focus ((repeat (first | exact Below.refl _ _ | (refine Below.drew ?_) | (refine Go.below_drewN ?_ _) | (refine Below.alloc ?_ (by first | (simp; done) | omega | (simp; omega)) _) | (refine Below.setCell ?_ (by first | (simp; done) | omega | (simp; omega)) _) | (refine Below.trans ?_ (Below.mono (by assumption) (by first | (simp; done) | omega | (simp; omega)))))); done)); rintro e w3 ⟨rfl, hb3⟩; have hz3 : wc.heap.size ≤ w3.heap.size := (by have := hb3.size; (try simp at this); omega)))
      all_goals
        go_wp2
        go_meet
        exact ⟨rfl, rfl, rfl, rfl, Lib.hid (HST.out.below (by ((repeat (first | exact Below.refl _ _ | (refine Below.drew ?_) | (refine Go.below_drewN ?_ _) | (refine Below.alloc ?_ (by first | (simp; done) | omega | (simp; omega)) _) | (refine Below.setCell ?_ (by first | (simp; done) | omega | (simp; omega)) _) | (refine Below.trans ?_ (Below.mono (by assumption) (by first | (simp; done) | omega | (simp; omega)))))); done)))⟩
    case rest =>
      obtain ⟨rfl, rfl, rfl, rfl, HS2⟩ := hcut
      clear HVC HEAB HST
      obtain ⟨c0, c1, c2, c3, c4, c5⟩ := facts6 HS2.out.hc
      go_wp2_with fail
      clear c0 c1 c2 c3 c4 c5
      go_loopw [26] (fun x wr => ∃ j : Nat, j ≤ is.length ∧ x = .int .i64 j ∧ RowKit.Hid (SmSt w (vO k t PA ps.length pc IA is.length ic re im) (vO k2 t2 PB qs.length qc IB js.length jc re2 im2) k t re im C ps.length ck D is.length dk b5 (psv ps) (vs (mutI j is)) wr)) (fun x _ => is.length - (intOf x).toNat)
      case atStart => exact ⟨0, Nat.zero_le _, rfl, Lib.hid (by rw [mutI_zero]; exact HS2.out)⟩
      case round =>
        obtain ⟨j, hj, rfl, HSr⟩ := hrel
        obtain ⟨c0, c1, c2, c3, c4, c5⟩ := facts6 HSr.out.hc
        by_cases hlt : j < is.length
        · obtain ⟨g, cap, hD, -, -⟩ := HSr.out.oi.form (by omega)
          simp only [Value.slice.injEq, true_and] at hD
          obtain ⟨rfl, rfl⟩ := hD
          have g1 := HSr.out.oi.cellAt j (by omega)
          rw [mutI_get hlt] at g1
          have gf := HSr.out.oi.frozenAt j
          have hxs := HSZ.out.iz is[j] (List.getElem_mem _)
          have HMS := Lib.hid (mutI_set hlt)
          obtain ⟨x, hx⟩ : ∃ x, x = is[j] := ⟨_, rfl⟩
          rw [← hx] at g1 hxs HMS
          have hov : ¬ (9223372036854775807 < x.size + 1) := by omega
          clear hx hxs
          go_wp2
          exact ⟨⟨j + 1, by omega, by go_num, Lib.hid (by rw [← HMS.out]; exact HSr.out.storeI j _)⟩, by simp [intOf]; omega⟩
        · have HSi := Lib.hid (show SmSt w (vO k t PA ps.length pc IA is.length ic re im) (vO k2 t2 PB qs.length qc IB js.length jc re2 im2) k t re im C ps.length ck D is.length dk b5 (psv ps) (vs (is.map qm)) wr by rw [← mutI_all (show is.length ≤ j by omega)]; exact HSr.out)
          clear HSr
          go_wp2_with fail
          clear c0 c1 c2 c3 c4 c5
          go_loopw [40] (fun x wr => ∃ j : Nat, j ≤ ps.length ∧ x = .int .i64 j ∧ RowKit.Hid (SmSt w (vO k t PA ps.length pc IA is.length ic re im) (vO k2 t2 PB qs.length qc IB js.length jc re2 im2) k t re im C ps.length ck D is.length dk b5 (psv (mutP j ps)) (vs (is.map qm)) wr)) (fun x _ => ps.length - (intOf x).toNat)
          case atStart => exact ⟨0, Nat.zero_le _, rfl, Lib.hid (by rw [mutP_zero]; exact HSi.out)⟩
          case round =>
            obtain ⟨j, hj, rfl, HSr⟩ := hrel
            obtain ⟨c0, c1, c2, c3, c4, c5⟩ := facts6 HSr.out.hc
            by_cases hlt : j < ps.length
            · obtain ⟨g, cap, hC, -, -⟩ := HSr.out.op.form (by omega)
              simp only [Value.slice.injEq, true_and] at hC
              obtain ⟨rfl, rfl⟩ := hC
              have g1 := HSr.out.op.cellAt (j * 2) (by omega)
              rw [mutP_get hlt] at g1
              have gf := HSr.out.op.frozenAt (j * 2)
              have hxs := (HSZ.out.pz ps[j] (List.getElem_mem _)).1
              have HMS := Lib.hid (mutP_set hlt)
              obtain ⟨x, hx⟩ : ∃ x, x = ps[j].1 := ⟨_, rfl⟩
              rw [← hx] at g1 hxs HMS
              have hov : ¬ (9223372036854775807 < x.size + 1) := by omega
              clear hx hxs
              go_wp2
              exact ⟨⟨j + 1, by omega, by go_num, Lib.hid (by rw [← HMS.out]; exact HSr.out.storeP (j * 2) _)⟩, by simp [intOf]; omega⟩
            · have HSf := Lib.hid (show SmSt w (vO k t PA ps.length pc IA is.length ic re im) (vO k2 t2 PB qs.length qc IB js.length jc re2 im2) k t re im C ps.length ck D is.length dk b5 (psv (ps.map (fun p => (qm p.1, p.2)))) (vs (is.map qm)) wr by rw [← mutP_all (show ps.length ≤ j by omega)]; exact HSr.out)
              clear HSr c0 c1 c2 c3 c4 c5
              by_cases hzero : is.length + ps.length = 0
              · obtain rfl := List.eq_nil_of_length_eq_zero (show is.length = 0 by omega)
                obtain rfl := List.eq_nil_of_length_eq_zero (show ps.length = 0 by omega)
                go_wp2_with (go_at_call 12; refine Calls.mono (alive_is _ (HH.out.below HSf.out.bl)) ?_; rintro e w4 ⟨rfl, hb4⟩; obtain ⟨a0, a1, a2, a3, a4, a5⟩ := facts6 (keep_block hb4 HSf.out.ha))
                go_ret
                exact ⟨rfl, HSf.out.bl.trans (hb4.mono HSf.out.bl.size)⟩
              · have hzi : ((is.length : Int) + (ps.length : Int) == 0) = false := by rw [beq_eq_false_iff_ne]; omega
                have hzj : ¬ ((is.length : Int) + (ps.length : Int) = 0) := by omega
                have NE := Lib.hid (mut_ne k t re im hzero)
                clear hzero
                go_wp2_with (first
                  | (go_at_call 12; refine Calls.mono (alive_is _ (HH.out.below HSf.out.bl)) ?_; rintro e w4 ⟨rfl, hb4⟩; obtain ⟨a0, a1, a2, a3, a4, a5⟩ := facts6 (keep_block hb4 HSf.out.ha); obtain ⟨c0, c1, c2, c3, c4, c5⟩ := facts6 (keep_block hb4 HSf.out.hc); have hz4 := hb4.size)
                  | (go_at_call 17; refine Calls.mono (rsame_no _ _ ⟨k, t, ps, is, re, im⟩ ⟨k, t, ps.map (fun p => (qm p.1, p.2)), is.map qm, re, im⟩ _ ((HV.out.below HSf.out.bl).below hb4) ((HSf.out.below hb4).vrd (by rw [List.length_map]; exact NP.out) (by rw [List.length_map]; exact NI.out) NT.out ?_ ?_) NE.out) ?_; (focus (intro p hp; obtain ⟨q, hq, rfl⟩ := List.mem_map.1 hp; have := HSZ.out.pz q hq; dsimp only; rw [qm_size]; unfold maxLen; omega)); (focus (intro x hx; obtain ⟨q, hq, rfl⟩ := List.mem_map.1 hx; have := HSZ.out.iz q hq; rw [qm_size]; unfold maxLen; omega)); rintro e w5 ⟨rfl, hb5⟩))
                go_ret
                exact ⟨rfl, HSf.out.bl.trans ((hb4.mono HSf.out.bl.size).trans (hb5.mono (Nat.le_trans HSf.out.bl.size hz4)))⟩
end Go.Proofs.YtdpgkihecpjijaaDoor.T
