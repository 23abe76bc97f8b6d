import Derived.Deep.DeepCutAuto
import Derived.Laws.OwnMore
import Derived.OwnWalk
import Derived.Lib.AppendStr
import Derived.Lib.SliceRun
import Derived.Lib.SmallJoins
import Derived.IntWalk
import Derived.Lib.ItoaLen
import Derived.Test.YtdfijefgklhmdaaDoorProg
import Derived.Test.YtdfijefgklhmdaaDoorShelf
import Derived.Test.YtdfijefgklhmdaaDoorMem
import Derived.Test.YtdfijefgklhmdaaDoorRy
import Derived.Test.YtdfijefgklhmdaaDoorRo
import Derived.WalkKit
import Derived.Outline
import Derived.WalkLawsBesides
import Derived.Deep.QuietTactic
import Derived.BigQuiet
import Derived.Lib.Hide
import Derived.Handy
import Derived.Deep.RegionHeld3
import Derived.Deep.DrawnRows
import Derived.KernelRfl
import Derived.Great.Walk
import Derived.Test.YtdfijefgklhmdaaDoorOwn
namespace Go.Proofs.YtdfijefgklhmdaaDoor.T
open Go Go.RowKit Go.Sort Mem Own
set_option maxRecDepth 100000
set_option maxHeartbeats 1000000
set_option linter.unusedVariables false
set_option linter.unusedSimpArgs false

theorem below_only {w w' : World} {g n : Nat} (h : w.grownBy w' (some g)) (hn : n ≤ w.heap.size) (hg : n ≤ g) : Below n w w' :=
  (Below.refl n w).grown h hn (fun k hk => by injection hk with e; omega)
/-- A row of texts is no driver. -/
theorem rd_drv {w w' : World} {g : Nat} {P : Option Addr} {pc : Nat} {Q : Option Addr} {qc : Nat} {D : Dr} {A : Option Addr} {L : List ByteArray} (h : DrRd w g P pc Q qc D) (hg : w.grownBy w' (some g)) (hr : Rd w A L) : Rd w' A L := by
  cases L with
  | nil => exact .inl rfl
  | cons x L =>
    refine rd_only hr hg fun b off e hb => ?_
    subst e hb
    have h1 := hr.cell (show 0 < (x :: L).length by simp)
    have hb2 := h.blk
    rw [of_blk hb2] at h1
    match off, h1 with
    | 0, h1 | 1, h1 | 2, h1 | 3, h1 | 4, h1 | 5, h1 | 6, h1 | 7, h1 => simp at h1
    | n + 8, h1 => simp at h1
/-- What stands while a driver is answered. -/
structure WtSt (w0 : World) (g : Nat) (P : Option Addr) (pc : Nat) (D : Dr) (w : World) : Prop where
  dr : ∃ Q qc, DrRd w g P pc Q qc D
  hg : w0.heap.size ≤ g
  bl : Below w0.heap.size w0 w
section
variable {w0 w w' : World} {g : Nat} {P : Option Addr} {pc : Nat} {D : Dr}
theorem WtSt.below (h : WtSt w0 g P pc D w) (hb : Below w.heap.size w w') : WtSt w0 g P pc D w' := by
  obtain ⟨Q, qc, hd⟩ := h.dr
  exact ⟨⟨Q, qc, hd.below hb⟩, h.hg, h.bl.trans (hb.mono h.bl.size)⟩
theorem WtSt.ans (h : WtSt w0 g P pc D w) (hok : DrOk D) (r : Rp) (A : Option Addr) (c : Nat) (hrk : RdK w A r.ks) (hkn : r.ks.length ≤ 8796093022000) : Calls Tryd.prog 12 #[.pointer (some ⟨g, 0, none⟩), rpV r A c] w fun e w' => e = .returned (.tuple #[]) ∧ RowKit.Hid (WtSt w0 g P pc (ansD D r) w') ∧ RowKit.Hid (∀ A L, Rd w A L → Rd w' A L) := by
  obtain ⟨Q, qc, hd⟩ := h.dr
  refine (ans_is g P pc Q qc D r A c w hd hok hrk hkn).mono ?_
  rintro e w' ⟨rfl, Q', qc', h1, h2⟩
  exact ⟨rfl, Lib.hid ⟨⟨Q', qc', h1.out⟩, h.hg, h.bl.trans (below_only h2.out h.bl.size h.hg)⟩, Lib.hid (fun A L hr => rd_drv hd h2.out hr)⟩
end
def MIGRATE : List UInt8 := [77, 73, 71, 82, 65, 84, 69]
theorem next_ex (D : Dr) (hok : DrOk D) : ∃ n L b, L.length ≤ 100 ∧ (b = true → ∃ x l, L = x :: l ∧ (¬ x.toList = MIGRATE → D.call ≠ 3)) ∧ (b = false → atEnd D) ∧
    ∀ g P pc Q qc w, DrRd w g P pc Q qc D → Tab w → Calls Tryd.prog 13 #[.pointer (some ⟨g, 0, none⟩)] w (NextOut n L b w) := by
  by_cases he : atEnd D
  · exact ⟨0, [], false, by simp, by simp, fun _ => he, fun g P pc Q qc w h hT => next_end g P pc Q qc D w h he⟩
  · refine ⟨nextN D, nextL D, true, ?_, fun _ => ?_, by simp, fun g P pc Q qc w h hT => next_main g P pc Q qc D w h hok he hT⟩
    · unfold nextL; split; simp; split; simp; split; simp; split; simp; split <;> simp
    · unfold nextL
      split
      · exact ⟨_, _, rfl, fun _ => by omega⟩
      split
      · exact ⟨_, _, rfl, fun _ => by omega⟩
      split
      · exact ⟨_, _, rfl, fun _ => by omega⟩
      split
      · exact ⟨_, _, rfl, fun h => absurd (by decide +kernel) h⟩
      split
      · exact ⟨_, _, rfl, fun _ => by omega⟩
      · exact ⟨_, _, rfl, fun _ => by omega⟩
def rpBusy : Rp := ⟨2, 0, ⟨#[69, 82, 82, 32, 98, 117, 115, 121]⟩, []⟩
def rpAgain : Rp := ⟨2, 0, ⟨#[84, 82, 89, 65, 71, 65, 73, 78]⟩, []⟩
theorem rpBusy_is : (rAgain rpBusy || rBusy rpBusy) = true := by decide +kernel
theorem rpAgain_is : (rAgain rpAgain || rBusy rpAgain) = true := by decide +kernel
theorem WtSt.wait {w0 w : World} {g : Nat} {P : Option Addr} {pc : Nat} {D : Dr} (h : WtSt w0 g P pc D w) (hok : DrOk D) (h3 : atEnd D ∨ D.call ≠ 3) (r : Rp) (hr : (rAgain r || rBusy r) = true) (hks : r.ks = []) : Calls Tryd.prog 12 #[.pointer (some ⟨g, 0, none⟩), rpV r none 0] w fun e w' => e = .returned (.tuple #[]) ∧ RowKit.Hid (WtSt w0 g P pc D w') ∧ RowKit.Hid (∀ A L, Rd w A L → Rd w' A L) := by
  have := h.ans hok r none 0 (.inl hks) (by rw [hks]; exact Nat.zero_le _)
  rw [ansD_wait h3 hr] at this
  exact this
theorem newD_parts {l : List Mv} {B T : Int} : (newD l B T).plan = l := rfl
/-- ReshardWaits -/
theorem waits_is (A : Option Addr) (l : List Mv) (c : Nat) (B T : Int) (AA : Option Addr) (la : List An) (ca : Nat) (z : Int) (w : World) (ha : RdM w A l) (hc : l.length ≤ c) (hcm : c ≤ maxLen) (haa : RdA w AA la) (hok : ∀ x ∈ la, AnOk w x) (hT : Tab w) : Calls Tryd.prog 5 #[plV A l.length c B T, .slice AA la.length ca, .int .i64 z] w fun e w' => e = .returned (.bool true) ∧ Below w.heap.size w w' := by
  have HA := Lib.hid ha; have HT := Lib.hid hT; have HC := Lib.hid hc; have HCM := Lib.hid hcm; have HAA := Lib.hid haa; have HOK := Lib.hid hok
  have HX0 := Lib.hid (heap_alloc_new w (.cells #[.slice A l.length c, .int .i64 B, .int .i64 T] 24))
  have HBW0 := Lib.hid ((Below.refl w.heap.size w).alloc (Nat.le_refl _) (.cells #[.slice A l.length c, .int .i64 B, .int .i64 T] 24))
  clear ha hT hc hcm haa hok
  by_cases hlong : 100 < l.length ∨ 300 < la.length ∨ z < 0 ∨ 20 < z
  · have hl : ∀ (P : Prop), (100 < l.length → P) → (¬ 100 < l.length → 300 < la.length → P) → (¬ 100 < l.length → ¬ 300 < la.length → z < 0 → P) → (¬ 100 < l.length → ¬ 300 < la.length → ¬ z < 0 → 20 < z → P) → P := by
      intro P h1 h2 h3 h4
      by_cases k1 : 100 < l.length
      · exact h1 k1
      by_cases k2 : 300 < la.length
      · exact h2 k1 k2
      by_cases k3 : z < 0
      · exact h3 k1 k2 k3
      · exact h4 k1 k2 k3 (by omega)
    clear hlong
    refine hl _ ?_ ?_ ?_ ?_
    all_goals
      clear hl
      intros
      go_enter Tryd.func5, Tryd.ntmps5
      go_wp2_with (go_at_call 8; refine Calls.mono (alive_is _ (HT.out.keep ?_)) ?_; (focus ((repeat (first | exact Below.refl _ _ | (refine Below.drew ?_) | (refine Go.below_drewN ?_ _) | (refine Below.alloc ?_ (by first | (simp; done) | omega | (simp; omega)) _) | (refine Below.setCell ?_ (by first | (simp; done) | omega | (simp; omega)) _) | (refine Below.trans ?_ (Below.mono (by assumption) (by first | (simp; done) | omega | (simp; omega)))))); done)); rintro e w1 ⟨rfl, hb1⟩; have hz1 := hb1.size; (try simp at hz1))
      go_ret
      exact ⟨rfl, (by ((repeat (first | exact Below.refl _ _ | (refine Below.drew ?_) | (refine Go.below_drewN ?_ _) | (refine Below.alloc ?_ (by first | (simp; done) | omega | (simp; omega)) _) | (refine Below.setCell ?_ (by first | (simp; done) | omega | (simp; omega)) _) | (refine Below.trans ?_ (Below.mono (by assumption) (by first | (simp; done) | omega | (simp; omega)))))); done))⟩
  · have h1 : l.length ≤ 100 := by omega
    have h2 : la.length ≤ 300 := by omega
    have h3 : 0 ≤ z := by omega
    have h4 : z ≤ 20 := by omega
    clear hlong
    obtain ⟨E, hE⟩ : ∃ E, newErr l B T = E := ⟨_, rfl⟩
    have HE := Lib.hid hE
    clear hE
    by_cases h0 : E = 0
    · subst h0
      obtain ⟨N, hN⟩ : ∃ N, N = la.length := ⟨_, rfl⟩
      have HNN := Lib.hid hN
      rw [← hN] at h2 ⊢
      clear hN
      obtain ⟨zn, rfl⟩ : ∃ zn : Nat, z = (zn : Int) := ⟨z.toNat, by omega⟩
      go_enter Tryd.func5, Tryd.ntmps5
      go_upto_region 6 with ((go_at_call 9; refine Calls.mono (new_yes2 (HA.out.below ?_) HC.out HCM.out HE.out) ?_; (focus ((repeat (first | exact Below.refl _ _ | (refine Below.drew ?_) | (refine Go.below_drewN ?_ _) | (refine Below.alloc ?_ (by first | (simp; done) | omega | (simp; omega)) _) | (refine Below.setCell ?_ (by first | (simp; done) | omega | (simp; omega)) _) | (refine Below.trans ?_ (Below.mono (by assumption) (by first | (simp; done) | omega | (simp; omega)))))); done)); rintro e w1 ⟨g, C, kc, rfl, hg, HD, HCb, hb1⟩; have HB1 := Lib.hid (HBW0.out.trans (hb1.mono HBW0.out.size))))
      have HW0 := Lib.hid (show WtSt w g C kc (newD l B T) w1 from ⟨⟨_, _, HD.out⟩, by have := hg; rw [alloc_size] at this; omega, HB1.out⟩)
      have HOK0 := Lib.hid (newD_ok HE.out)
      go_wp2_with fail
      go_loopw [54] (fun x wr => ∃ (i : Nat) (D : Dr), i ≤ N ∧ x = .int .i64 i ∧ RowKit.Hid (WtSt w g C kc D wr) ∧ RowKit.Hid (DrOk D)) (fun x _ => N - (intOf x).toNat)
      case atStart => exact ⟨0, _, Nat.zero_le _, rfl, HW0, HOK0⟩
      case round =>
        obtain ⟨i, D, hiN, rfl, HW, HDO⟩ := hrel
        clear HD HCb hg HW0 HOK0 HB1 hb1
        by_cases hlt : i < N
        · have hlt2 := Lib.hid (show i < la.length by rw [← HNN.out]; exact hlt)
          obtain ⟨b, off, rfl⟩ := HAA.out.addr (Nat.zero_lt_of_lt hlt2.out)
          obtain ⟨g0, g1, g2, g3⟩ := (HAA.out.below HW.out.bl).cell hlt2.out
          have HK := Lib.hid ((HOK.out _ (List.getElem_mem hlt2.out)).below HW.out.bl)
          generalize la[i]'hlt2.out = q at g0 g1 g2 g3 HK
          obtain ⟨⟨qk, qz, qt, qs⟩, QA, qc⟩ := q
          dsimp only at g0 g1 g2 g3
          obtain ⟨qn, hqn⟩ : ∃ qn, qn = qs.length := ⟨_, rfl⟩
          have HQN := Lib.hid hqn
          rw [← hqn] at g3
          clear hqn
          go_upto_region 8 with fail
          go_cut [10] (fun s10 wx => ∃ b10 : Nat, s10 = .pointer (some ⟨b10, 0, none⟩) ∧ RowKit.Hid (wx.heap[b10]? = some (.cells #[.int .i64 qk, .int .i64 qz, .string qt, .slice QA qn qc] 41 (0, 0))) ∧ RowKit.Hid (WtSt w g C kc D wx) ∧ RowKit.Hid (RdK wx QA qs))
          case first =>
            go_wp2
            go_meet
            exact ⟨_, rfl, Lib.hid (heap_alloc_new wr _), Lib.hid (HW.out.below ((Below.refl _ _).alloc (Nat.le_refl _) _)), Lib.hid (HK.out.1.below ((Below.refl _ _).alloc (Nat.le_refl _) _))⟩
          case rest =>
            obtain ⟨b10, rfl, HX10, HW1, HK1⟩ := hcut
            obtain ⟨x0, x1, x2, x3⟩ := facts4 HX10.out
            clear g0 g1 g2 g3
            obtain rfl : qn = qs.length := HQN.out
            go_wp2_with (go_at_call 12; refine Calls.mono (HW1.out.ans HDO.out ⟨qk, qz, qt, qs⟩ QA qc HK1.out HK.out.2.2) ?_; rintro e w2 ⟨rfl, HW2, -⟩)
            exact ⟨⟨i + 1, _, by omega, by go_num, HW2, Lib.hid (ansD_ok HDO.out HK.out.2.1)⟩, by simp [intOf]; omega⟩
        · obtain ⟨n, L, bb, hL, hb1, hb0, hnext⟩ := next_ex D HDO.out
          have HNX := Lib.hid hnext
          clear hnext
          obtain ⟨Q, qc, hd⟩ := HW.out.dr
          have HN1 := Lib.hid (HNX.out g C kc Q qc wr hd (HT.out.keep HW.out.bl))
          clear hd
          have HL := Lib.hid hL
          have HB0 := Lib.hid hb0
          have HB1 := Lib.hid hb1
          clear hL hb0 hb1
          go_upto_region 12 with (go_at_call 13; refine Calls.mono HN1.out ?_; rintro e w1 ⟨A0, c0, rfl, HR1, hb1⟩; have HW1 := Lib.hid (HW.out.below hb1))
          cases bb with
          | false =>
            have H3 := Lib.hid (show atEnd D ∨ D.call ≠ 3 from .inl (HB0.out rfl))
            go_wp2_with fail
            go_loopw [77] (fun xx wr => ∃ (j : Nat), j ≤ zn ∧ xx = .int .i64 j ∧ RowKit.Hid (WtSt w g C kc D wr) ∧ RowKit.Hid (Rd wr A0 L)) (fun xx _ => zn - (intOf xx).toNat)
            case atStart => exact ⟨0, Nat.zero_le _, rfl, HW1, HR1⟩
            case round =>
              obtain ⟨j, hjN, rfl, HW2, HR2⟩ := hrel
              by_cases hlt2 : j < zn
              · go_wp2_with (first
                  | ((fail_if_success (have := HW3)); go_at_call 12; refine Calls.mono (HW2.out.wait HDO.out H3.out rpBusy rpBusy_is rfl) ?_; rintro e w3 ⟨rfl, HW3, HR3⟩)
                  | (go_at_call 12; refine Calls.mono (HW3.out.wait HDO.out H3.out rpAgain rpAgain_is rfl) ?_; rintro e w4 ⟨rfl, HW4, HR4⟩))
                exact ⟨⟨j + 1, by omega, by go_num, HW4, Lib.hid (HR4.out _ _ (HR3.out _ _ HR2.out))⟩, by simp [intOf]; omega⟩
              · obtain ⟨Q2, qc2, hd2⟩ := HW2.out.dr
                have HN2 := Lib.hid (HNX.out g C kc Q2 qc2 _ hd2 (HT.out.keep HW2.out.bl))
                clear hd2
                go_wp2_with (first
                  | (go_at_call 13; refine Calls.mono HN2.out ?_; rintro e w5 ⟨A5, c5, rfl, HR5, hb5⟩; have HB5 := Lib.hid (HW2.out.bl.trans (hb5.mono HW2.out.bl.size)); have HR2b := Lib.hid (HR2.out.below hb5); have hz5 := HB5.out.size)
                  | (go_at_call 8; refine Calls.mono (alive_is _ (HT.out.keep HB5.out)) ?_; rintro e w6 ⟨rfl, hb6⟩; have hz6 := hb6.size; have HR6 := Lib.hid (HR5.out.below hb6); have HR6b := Lib.hid (HR2b.out.below hb6))
                  | (go_at_call 14; refine Calls.mono (refs_is _ _ L L _ _ _ HR6b.out HR6.out (by have := HL.out; unfold maxLen; omega)) ?_; rintro e w7 ⟨rfl, hb7⟩; rw [decide_eq_true rfl]))
                go_ret
                exact ⟨rfl, HB5.out.trans ((hb6.trans (hb7.mono hz6)).mono hz5)⟩
          | true =>
            obtain ⟨x, L', rfl, hx⟩ := HB1.out rfl
            obtain ⟨b0, o0, rfl⟩ := HR1.out.addr (by simp)
            have q0 := HR1.out.cell (show 0 < (x :: L').length by simp)
            simp only [Nat.add_zero, List.getElem_cons_zero] at q0
            by_cases hmig : x.toList = [77, 73, 71, 82, 65, 84, 69]
            · have hmb : (x.toList == [77, 73, 71, 82, 65, 84, 69]) = true := by simpa using hmig
              clear hmig
              go_wp2_with (go_at_call 8; refine Calls.mono (alive_is _ (HT.out.keep HW1.out.bl)) ?_; rintro e w3 ⟨rfl, hb3⟩)
              go_ret
              exact ⟨rfl, HW1.out.bl.trans (hb3.mono HW1.out.bl.size)⟩
            · have H3 := Lib.hid (show atEnd D ∨ D.call ≠ 3 from .inr (hx hmig))
              have hmb : (x.toList == [77, 73, 71, 82, 65, 84, 69]) = false := by simpa using hmig
              clear hx hmig
              go_wp2_with fail
              go_loopw [77] (fun xx wr => ∃ (j : Nat), j ≤ zn ∧ xx = .int .i64 j ∧ RowKit.Hid (WtSt w g C kc D wr) ∧ RowKit.Hid (Rd wr (some ⟨b0, o0, none⟩) (x :: L'))) (fun xx _ => zn - (intOf xx).toNat)
              case atStart => exact ⟨0, Nat.zero_le _, rfl, HW1, HR1⟩
              case round =>
                obtain ⟨j, hjN, rfl, HW2, HR2⟩ := hrel
                by_cases hlt2 : j < zn
                · go_wp2_with (first
                    | ((fail_if_success (have := HW3)); go_at_call 12; refine Calls.mono (HW2.out.wait HDO.out H3.out rpBusy rpBusy_is rfl) ?_; rintro e w3 ⟨rfl, HW3, HR3⟩)
                    | (go_at_call 12; refine Calls.mono (HW3.out.wait HDO.out H3.out rpAgain rpAgain_is rfl) ?_; rintro e w4 ⟨rfl, HW4, HR4⟩))
                  exact ⟨⟨j + 1, by omega, by go_num, HW4, Lib.hid (HR4.out _ _ (HR3.out _ _ HR2.out))⟩, by simp [intOf]; omega⟩
                · obtain ⟨Q2, qc2, hd2⟩ := HW2.out.dr
                  have HN2 := Lib.hid (HNX.out g C kc Q2 qc2 _ hd2 (HT.out.keep HW2.out.bl))
                  clear hd2
                  go_wp2_with (first
                    | (go_at_call 13; refine Calls.mono HN2.out ?_; rintro e w5 ⟨A5, c5, rfl, HR5, hb5⟩; have HB5 := Lib.hid (HW2.out.bl.trans (hb5.mono HW2.out.bl.size)); have HR2b := Lib.hid (HR2.out.below hb5); have hz5 := HB5.out.size)
                    | (go_at_call 8; refine Calls.mono (alive_is _ (HT.out.keep HB5.out)) ?_; rintro e w6 ⟨rfl, hb6⟩; have hz6 := hb6.size; have HR6 := Lib.hid (HR5.out.below hb6); have HR6b := Lib.hid (HR2b.out.below hb6))
                    | (go_at_call 14; refine Calls.mono (refs_is _ _ (x :: L') (x :: L') _ _ _ HR6b.out HR6.out (by have := HL.out; unfold maxLen; omega)) ?_; rintro e w7 ⟨rfl, hb7⟩; rw [decide_eq_true rfl]))
                  go_ret
                  exact ⟨rfl, HB5.out.trans ((hb6.trans (hb7.mono hz6)).mono hz5)⟩
    · go_enter Tryd.func5, Tryd.ntmps5
      go_wp2_with (first
        | (go_at_call 9; refine Calls.mono (new_no (HA.out.below ?_) HC.out HCM.out HE.out h0) ?_; (focus ((repeat (first | exact Below.refl _ _ | (refine Below.drew ?_) | (refine Go.below_drewN ?_ _) | (refine Below.alloc ?_ (by first | (simp; done) | omega | (simp; omega)) _) | (refine Below.setCell ?_ (by first | (simp; done) | omega | (simp; omega)) _) | (refine Below.trans ?_ (Below.mono (by assumption) (by first | (simp; done) | omega | (simp; omega)))))); done)); rintro e w1 ⟨rfl, hb1⟩; have hz1 := hb1.size; (try simp at hz1))
        | (go_at_call 8; refine Calls.mono (alive_is _ (HT.out.keep ?_)) ?_; (focus ((repeat (first | exact Below.refl _ _ | (refine Below.drew ?_) | (refine Go.below_drewN ?_ _) | (refine Below.alloc ?_ (by first | (simp; done) | omega | (simp; omega)) _) | (refine Below.setCell ?_ (by first | (simp; done) | omega | (simp; omega)) _) | (refine Below.trans ?_ (Below.mono (by assumption) (by first | (simp; done) | omega | (simp; omega)))))); done)); rintro e w3 ⟨rfl, hb3⟩))
      go_ret
      exact ⟨rfl, (by ((repeat (first | exact Below.refl _ _ | (refine Below.drew ?_) | (refine Go.below_drewN ?_ _) | (refine Below.alloc ?_ (by first | (simp; done) | omega | (simp; omega)) _) | (refine Below.setCell ?_ (by first | (simp; done) | omega | (simp; omega)) _) | (refine Below.trans ?_ (Below.mono (by assumption) (by first | (simp; done) | omega | (simp; omega)))))); done))⟩
end Go.Proofs.YtdfijefgklhmdaaDoor.T
