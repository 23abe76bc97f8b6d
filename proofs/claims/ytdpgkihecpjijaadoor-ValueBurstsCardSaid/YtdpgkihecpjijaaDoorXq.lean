import Derived.Deep.DeepCutAuto
import Derived.Laws.OwnMore
import Derived.OwnWalk
import Derived.Lib.AppendStr
import Derived.Laws.IdiomStrings
import Derived.Lib.ConvBytes
import Derived.Lib.SmallJoins
import Derived.IntWalk
import Derived.Deep.AppendLies
import Derived.Deep.RegionLaw
import Derived.Test.YtdpgkihecpjijaaDoorProg
import Derived.Test.YtdpgkihecpjijaaDoorMem
import Derived.Test.YtdpgkihecpjijaaDoorVw
import Derived.Test.YtdpgkihecpjijaaDoorVx
import Derived.Test.YtdpgkihecpjijaaDoorVy
import Derived.Test.YtdpgkihecpjijaaDoorWc
import Derived.Test.YtdpgkihecpjijaaDoorWf
import Derived.Test.YtdpgkihecpjijaaDoorXj
import Derived.Test.YtdpgkihecpjijaaDoorXo
import Derived.Test.YtdpgkihecpjijaaDoorXp
import Derived.WalkKit
import Derived.Outline
import Derived.WalkLawsBesides
import Derived.Deep.QuietTactic
import Derived.BigQuiet
import Derived.Lib.Hide
import Derived.Handy
import Derived.Deep.RegionHeld3
import Derived.Deep.DrawnRows
import Derived.KernelRfl
import Derived.Great.Walk
import Derived.Test.YtdpgkihecpjijaaDoorOwn
namespace Go.Proofs.YtdpgkihecpjijaaDoor.T
open Go Go.RowKit Mem Own
set_option maxRecDepth 100000
set_option maxHeartbeats 1000000
set_option linter.unusedVariables false
set_option linter.unusedSimpArgs false

theorem bits_xor_u8_nat (a b : Nat) (ha : a < 256) (hb : b < 256) : bits .xor .u8 (a : Int) (b : Int) = ((a ^^^ b : Nat) : Int) := by
  have hx : a ^^^ b < 2 ^ 8 := Nat.xor_lt_two_pow (by omega) (by omega)
  have h1 : (BitVec.ofInt 8 (a : Int)).toNat = a := by
    rw [BitVec.ofInt_natCast, BitVec.toNat_ofNat]; exact Nat.mod_eq_of_lt (by omega)
  have h2 : (BitVec.ofInt 8 (b : Int)).toNat = b := by
    rw [BitVec.ofInt_natCast, BitVec.toNat_ofNat]; exact Nat.mod_eq_of_lt (by omega)
  show IntKind.u8.wrap ((BitVec.ofInt 8 (a : Int) ^^^ BitVec.ofInt 8 (b : Int)).toNat : Int) = _
  rw [BitVec.toNat_xor, h1, h2]
  have hw : ∀ n : Int, IntKind.u8.wrap n = n % 256 := fun n => by simp [IntKind.wrap, IntKind.bits, IntKind.signed]
  rw [hw]
  omega
theorem mask_at : ∀ r : Fin 8, (128 : Int) / 2 ^ r.val = (((128 : UInt8) >>> (UInt8.ofNat r.val)).toNat : Int) := by decide
theorem turn_cell (x : UInt8) {r : Nat} (hr : r < 8) : bits .xor .u8 (x.toNat : Int) (128 / 2 ^ r) = ((x ^^^ ((128 : UInt8) >>> (UInt8.ofNat r))).toNat : Int) := by
  have := mask_at ⟨r, hr⟩
  dsimp only at this
  rw [this, bits_xor_u8_nat _ _ x.toNat_lt (UInt8.toNat_lt _), UInt8.toNat_xor]
theorem bursts_main (v : Value) (a : Vl) (A T : Nat) (w : World) (hv : VRd w v a) (hr : RightV a) (hA : A < 8 * (dumpB a).length) (hT : T < 65536) (hh : Hv w) : Calls Tryd.prog 6 #[v, .int .i64 (A : Int), .int .u16 (T : Int)] w fun e w' => e = .returned (.bool true) ∧ Below w.heap.size w w' := by
  have HV := Lib.hid hv; have HH := Lib.hid hh; have HR := Lib.hid hr
  obtain ⟨⟨PA, pc, IA, ic, rfl, -, -⟩, -⟩ := hv
  have hl1 := body_len _ hr
  obtain ⟨k, t, ps, is, re, im⟩ := a
  dsimp only at HV ⊢
  obtain ⟨L, hL⟩ : ∃ L, L = dumpB ⟨k, t, ps, is, re, im⟩ := ⟨_, rfl⟩
  obtain ⟨s, hs⟩ : ∃ s, s = B L := ⟨_, rfl⟩
  have HLD := Lib.hid hL
  have hsz : s.size = L.length := by rw [hs]; rfl
  have hln : L.length ≤ 600010 := by rw [hL]; simp [dumpB, sumB, two16]; omega
  have hl3 : 3 ≤ L.length := by rw [hL]; simp [dumpB, sumB, two16, body]
  rw [← hL, ← hsz] at hA
  have HS := Lib.hid (show B (dumpB ⟨k, t, ps, is, re, im⟩) = s by rw [hs, hL])
  have HSL := Lib.hid (show s.data.toList = L by rw [hs]; rfl)
  rw [← hsz] at hln hl3
  have HZ := Lib.hid hsz
  clear hh hr hl1 hs hL hsz
  have hu := Tryd.underlying25
  have kc := fun (w' : World) (t : ByteArray) => Lib.run_convert_string_bytes (P := Tryd.prog) w' 9 38 5 t Tryd.underlying9 Tryd.underlying38 Tryd.underlying5
  go_enter Tryd.func6, Tryd.ntmps6
  go_upto_region 4 with (go_at_call 13; refine Calls.mono (dump_is _ _ _ (HV.out.below ?_) HR.out (HH.out.below ?_)) ?_; (focus ((repeat (first | exact Below.refl _ _ | (refine Below.drew ?_) | (refine Go.below_drewN ?_ _) | (refine Below.alloc ?_ (by first | (simp; done) | omega | (simp; omega)) _) | (refine Below.setCell ?_ (by first | (simp; done) | omega | (simp; omega)) _) | (refine Below.trans ?_ (Below.mono (by assumption) (by first | (simp; done) | omega | (simp; omega)))))); done)); (focus ((repeat (first | exact Below.refl _ _ | (refine Below.drew ?_) | (refine Go.below_drewN ?_ _) | (refine Below.alloc ?_ (by first | (simp; done) | omega | (simp; omega)) _) | (refine Below.setCell ?_ (by first | (simp; done) | omega | (simp; omega)) _) | (refine Below.trans ?_ (Below.mono (by assumption) (by first | (simp; done) | omega | (simp; omega)))))); done)); rintro e w1 ⟨rfl, hb1⟩; rw [show (⟨(dumpB ⟨k, t, ps, is, re, im⟩).toArray⟩ : ByteArray) = s from HS.out])
  go_cut [9] (fun s9 wx => ∃ (g c : Nat), s9 = .slice (some ⟨g, 0, none⟩) s.size c ∧ w.heap.size ≤ g ∧ RowKit.Hid (RowB wx g L) ∧ RowKit.Hid (Below w.heap.size w wx))
  case first =>
    have HB1 := Lib.hid (show Below w.heap.size w w1 from (by ((repeat (first | exact Below.refl _ _ | (refine Below.drew ?_) | (refine Go.below_drewN ?_ _) | (refine Below.alloc ?_ (by first | (simp; done) | omega | (simp; omega)) _) | (refine Below.setCell ?_ (by first | (simp; done) | omega | (simp; omega)) _) | (refine Below.trans ?_ (Below.mono (by assumption) (by first | (simp; done) | omega | (simp; omega)))))); done)))
    clear hb1
    go_wp2
    go_meet
    exact ⟨_, _, rfl, HB1.out.size, Lib.hid (by have := row_bw w1 s; rw [HSL.out] at this; exact this), Lib.hid (HB1.out.trans (Joins.below_bytesWorld _ w1 5 s HB1.out.size))⟩
  case rest =>
    obtain ⟨g, c, rfl, hg, HRB, HB⟩ := hcut
    go_wp2_with fail
    go_loopw [10, 36] (fun x10 x36 wr => ∃ (i : Nat) (l : List UInt8) (q : Bool), i ≤ 16 ∧ x36 = .int .i64 i ∧ x10 = .bool q ∧ RowKit.Hid (Turned L A i l q) ∧ RowKit.Hid (RowB wr g l) ∧ RowKit.Hid (Below w.heap.size w wr)) (fun _ x36 _ => 16 - (intOf x36).toNat)
    case atStart => exact ⟨0, L, false, Nat.zero_le _, rfl, rfl, Lib.hid (turned_zero L A), HRB, HB⟩
    case round =>
      obtain ⟨i, l, q, hi, rfl, rfl, HTU, HRr, HBr⟩ := hrel
      by_cases hlt : i < 16
      · by_cases hbit : bits BinOp.and IntKind.u16 ((T : Int) / 2 ^ i) 1 = 1
        · by_cases hk : A + i < 8 * s.size
          · obtain ⟨Q, hQ⟩ : ∃ Q, Q = (A + i) / 8 := ⟨_, rfl⟩
            obtain ⟨R, hR⟩ : ∃ R, R = (A + i) % 8 := ⟨_, rfl⟩
            have e1 : ((A : Int) + (i : Int)) / 8 = (Q : Int) := by omega
            have e2 : ((A : Int) + (i : Int)) % 8 = (R : Int) := by omega
            have hQs : Q < s.size := by omega
            have hR8 : R < 8 := by omega
            have hll : l.length = s.size := by rw [HTU.out.1, HZ.out]
            obtain ⟨g1, gf⟩ := HRr.out.cell (show Q < l.length by omega)
            have HFL := Lib.hid (show flip l (A + i) = l.set Q (l.getD Q 0 ^^^ ((128 : UInt8) >>> (UInt8.ofNat R))) by unfold flip; rw [← hQ, ← hR])
            obtain ⟨x, hx⟩ : ∃ x, x = l.getD Q 0 := ⟨_, rfl⟩
            rw [← hx] at g1 HFL
            have htc := turn_cell x hR8
            obtain ⟨y, hy⟩ : ∃ y, y = x ^^^ ((128 : UInt8) >>> (UInt8.ofNat R)) := ⟨_, rfl⟩
            rw [← hy] at HFL htc
            have HTN := Lib.hid (turned_flip hlt (show A + i < 8 * L.length by rw [← HZ.out]; exact hk) HTU.out)
            have hgs := lt_of_cell g1
            clear hQ hR hx hll hy
            go_wp2_with fail
            go_region
            go_wp2
            exact ⟨⟨i + 1, flip l (A + i), true, by omega, by go_num, rfl, HTN, Lib.hid (by rw [HFL.out]; exact HRr.out.set Q y), Lib.hid (Below.drew (HBr.out.setCell (by first | omega | (dsimp only; omega)) _))⟩, by simp [intOf]; omega⟩
          · have hk' : ¬ ((A : Int) + (i : Int) < 8 * (s.size : Int)) := by omega
            go_wp2
            exact ⟨⟨i + 1, l, q, by omega, by go_num, rfl, Lib.hid (turned_skip hlt HTU.out), HRr, HBr⟩, by simp [intOf]; omega⟩
        · go_wp2
          exact ⟨⟨i + 1, l, q, by omega, by go_num, rfl, Lib.hid (turned_skip hlt HTU.out), HRr, HBr⟩, by simp [intOf]; omega⟩
      · have hll : l.length = s.size := by rw [HTU.out.1, HZ.out]
        have hbl : (B l).size = s.size := hll
        have kcb : (convert 38 9 (.slice (some ⟨g, 0, none⟩) s.size c)).run Tryd.prog wr = .ok (.string (B l)) wr := by
          rw [← hll]
          exact run_convert_bytes_back (P := Tryd.prog) wr 38 9 5 ⟨g, 0, none⟩ c l Tryd.underlying38 Tryd.underlying5 Tryd.underlying9 HRr.out.rd
        have hbm : (B l).size ≤ maxLen := by unfold maxLen; omega
        have HBM := Lib.hid hbm
        cases q with
        | true =>
          have HLV := Lib.hid (turned_end HR.out (by rw [← HLD.out]; exact HTU.out) (by omega))
          clear hbl hbm hll
          obtain ⟨s2, hs2⟩ : ∃ s2, s2 = B l := ⟨_, rfl⟩
          rw [← hs2] at kcb HLV HBM
          clear hs2
          have hzr := HBr.out.size
          go_wp2_with (first
            | (go_at_call 15; refine Calls.mono (load_as _ HLV.out HBM.out (HH.out.below HBr.out)) ?_; rintro e w2 ⟨PA2, pc2, IA2, ic2, rfl, HU, hb2⟩; have hz2 := hb2.size; have HB2 := Lib.hid (HBr.out.trans (hb2.mono hzr)); have hz3 := HB2.out.size)
            | (go_at_call 12; refine Calls.mono (alive_is _ (HH.out.below (HB2.out.alloc hz3 _))) ?_; rintro e w4 ⟨rfl, hb4⟩))
          go_ret
          exact ⟨rfl, (HB2.out.alloc hz3 _).trans (hb4.mono (by rw [alloc_size]; omega))⟩
        | false =>
          generalize hr2 : loadV (B l) = r2
          obtain ⟨⟨k2, t2, ps2, is2, re2, im2⟩, c2⟩ := r2
          have HLV := Lib.hid hr2
          clear hbl hbm hll hr2
          obtain ⟨s2, hs2⟩ : ∃ s2, s2 = B l := ⟨_, rfl⟩
          rw [← hs2] at kcb HLV HBM
          clear hs2
          have hzr := HBr.out.size
          go_wp2_with (first
            | (go_at_call 15; refine Calls.mono (load_as _ HLV.out HBM.out (HH.out.below HBr.out)) ?_; rintro e w2 ⟨PA2, pc2, IA2, ic2, rfl, HU, hb2⟩; have hz2 := hb2.size; have HB2 := Lib.hid (HBr.out.trans (hb2.mono hzr)); have hz3 := HB2.out.size)
            | (go_at_call 12; refine Calls.mono (alive_is _ (HH.out.below (HB2.out.alloc hz3 _))) ?_; rintro e w4 ⟨rfl, hb4⟩))
          go_ret
          exact ⟨rfl, (HB2.out.alloc hz3 _).trans (hb4.mono (by rw [alloc_size]; omega))⟩
/-- ValueBursts -/
theorem bursts_is (v : Value) (a : Vl) (z : Int) (T : Nat) (w : World) (hv : VRd w v a) (hz : z ≤ 9223372036854775807) (hT : T < 65536) (hh : Hv w) : Calls Tryd.prog 6 #[v, .int .i64 z, .int .u16 (T : Int)] w fun e w' => e = .returned (.bool true) ∧ Below w.heap.size w w' := by
  by_cases hr : RightV a
  · by_cases hzz : 0 ≤ z ∧ z < 8 * (dumpB a).length
    · obtain ⟨A, rfl⟩ : ∃ A : Nat, z = A := ⟨z.toNat, by omega⟩
      exact bursts_main v a A T w hv hr (by omega) hT hh
    · have HV := Lib.hid hv; have HH := Lib.hid hh; have HR := Lib.hid hr
      obtain ⟨⟨PA, pc, IA, ic, rfl, -, -⟩, -⟩ := hv
      have hl1 := body_len _ hr
      obtain ⟨k, t, ps, is, re, im⟩ := a
      dsimp only at HV ⊢
      obtain ⟨s, hs⟩ : ∃ s, s = B (dumpB ⟨k, t, ps, is, re, im⟩) := ⟨_, rfl⟩
      have hsz : s.size = (dumpB ⟨k, t, ps, is, re, im⟩).length := by rw [hs]; rfl
      rw [← hsz] at hzz
      have hln : s.size ≤ 600010 := by rw [hsz]; simp [dumpB, sumB, two16]; omega
      have HS := Lib.hid hs.symm
      clear hh hr hl1 hs hsz
      have hu := Tryd.underlying25
      by_cases hneg : z < 0
      · go_enter Tryd.func6, Tryd.ntmps6
        go_wp2_with (first
          | (go_at_call 13; refine Calls.mono (dump_is _ _ _ (HV.out.below ?_) HR.out (HH.out.below ?_)) ?_; (focus ((repeat (first | exact Below.refl _ _ | (refine Below.drew ?_) | (refine Go.below_drewN ?_ _) | (refine Below.alloc ?_ (by first | (simp; done) | omega | (simp; omega)) _) | (refine Below.setCell ?_ (by first | (simp; done) | omega | (simp; omega)) _) | (refine Below.trans ?_ (Below.mono (by assumption) (by first | (simp; done) | omega | (simp; omega)))))); done)); (focus ((repeat (first | exact Below.refl _ _ | (refine Below.drew ?_) | (refine Go.below_drewN ?_ _) | (refine Below.alloc ?_ (by first | (simp; done) | omega | (simp; omega)) _) | (refine Below.setCell ?_ (by first | (simp; done) | omega | (simp; omega)) _) | (refine Below.trans ?_ (Below.mono (by assumption) (by first | (simp; done) | omega | (simp; omega)))))); done)); rintro e w1 ⟨rfl, hb1⟩; rw [show (⟨(dumpB ⟨k, t, ps, is, re, im⟩).toArray⟩ : ByteArray) = s from HS.out]; have hz1 := hb1.size; (try simp at hz1))
          | (go_at_call 12; refine Calls.mono (alive_is _ (HH.out.below ?_)) ?_; (focus ((repeat (first | exact Below.refl _ _ | (refine Below.drew ?_) | (refine Go.below_drewN ?_ _) | (refine Below.alloc ?_ (by first | (simp; done) | omega | (simp; omega)) _) | (refine Below.setCell ?_ (by first | (simp; done) | omega | (simp; omega)) _) | (refine Below.trans ?_ (Below.mono (by assumption) (by first | (simp; done) | omega | (simp; omega)))))); done)); rintro e w4 ⟨rfl, hb4⟩))
        go_ret
        exact ⟨rfl, (by ((repeat (first | exact Below.refl _ _ | (refine Below.drew ?_) | (refine Go.below_drewN ?_ _) | (refine Below.alloc ?_ (by first | (simp; done) | omega | (simp; omega)) _) | (refine Below.setCell ?_ (by first | (simp; done) | omega | (simp; omega)) _) | (refine Below.trans ?_ (Below.mono (by assumption) (by first | (simp; done) | omega | (simp; omega)))))); done))⟩
      · have hbig : 8 * (s.size : Int) ≤ z := by omega
        go_enter Tryd.func6, Tryd.ntmps6
        go_wp2_with (first
          | (go_at_call 13; refine Calls.mono (dump_is _ _ _ (HV.out.below ?_) HR.out (HH.out.below ?_)) ?_; (focus ((repeat (first | exact Below.refl _ _ | (refine Below.drew ?_) | (refine Go.below_drewN ?_ _) | (refine Below.alloc ?_ (by first | (simp; done) | omega | (simp; omega)) _) | (refine Below.setCell ?_ (by first | (simp; done) | omega | (simp; omega)) _) | (refine Below.trans ?_ (Below.mono (by assumption) (by first | (simp; done) | omega | (simp; omega)))))); done)); (focus ((repeat (first | exact Below.refl _ _ | (refine Below.drew ?_) | (refine Go.below_drewN ?_ _) | (refine Below.alloc ?_ (by first | (simp; done) | omega | (simp; omega)) _) | (refine Below.setCell ?_ (by first | (simp; done) | omega | (simp; omega)) _) | (refine Below.trans ?_ (Below.mono (by assumption) (by first | (simp; done) | omega | (simp; omega)))))); done)); rintro e w1 ⟨rfl, hb1⟩; rw [show (⟨(dumpB ⟨k, t, ps, is, re, im⟩).toArray⟩ : ByteArray) = s from HS.out]; have hz1 := hb1.size; (try simp at hz1))
          | (go_at_call 12; refine Calls.mono (alive_is _ (HH.out.below ?_)) ?_; (focus ((repeat (first | exact Below.refl _ _ | (refine Below.drew ?_) | (refine Go.below_drewN ?_ _) | (refine Below.alloc ?_ (by first | (simp; done) | omega | (simp; omega)) _) | (refine Below.setCell ?_ (by first | (simp; done) | omega | (simp; omega)) _) | (refine Below.trans ?_ (Below.mono (by assumption) (by first | (simp; done) | omega | (simp; omega)))))); done)); rintro e w4 ⟨rfl, hb4⟩))
        go_ret
        exact ⟨rfl, (by ((repeat (first | exact Below.refl _ _ | (refine Below.drew ?_) | (refine Go.below_drewN ?_ _) | (refine Below.alloc ?_ (by first | (simp; done) | omega | (simp; omega)) _) | (refine Below.setCell ?_ (by first | (simp; done) | omega | (simp; omega)) _) | (refine Below.trans ?_ (Below.mono (by assumption) (by first | (simp; done) | omega | (simp; omega)))))); done))⟩
  · have HV := Lib.hid hv; have HH := Lib.hid hh; have HR := Lib.hid hr
    obtain ⟨⟨PA, pc, IA, ic, rfl, -, -⟩, -⟩ := hv
    obtain ⟨k, t, ps, is, re, im⟩ := a
    dsimp only at HV ⊢
    clear hh hr
    have hu := Tryd.underlying25
    go_enter Tryd.func6, Tryd.ntmps6
    go_wp2_with (first
      | (go_at_call 13; refine Calls.mono (dump_no _ _ _ (HV.out.below ?_) HR.out) ?_; (focus ((repeat (first | exact Below.refl _ _ | (refine Below.drew ?_) | (refine Go.below_drewN ?_ _) | (refine Below.alloc ?_ (by first | (simp; done) | omega | (simp; omega)) _) | (refine Below.setCell ?_ (by first | (simp; done) | omega | (simp; omega)) _) | (refine Below.trans ?_ (Below.mono (by assumption) (by first | (simp; done) | omega | (simp; omega)))))); done)); rintro e w1 ⟨rfl, hb1⟩; have hz1 := hb1.size; (try simp at hz1))
      | (go_at_call 12; refine Calls.mono (alive_is _ (HH.out.below ?_)) ?_; (focus ((repeat (first | exact Below.refl _ _ | (refine Below.drew ?_) | (refine Go.below_drewN ?_ _) | (refine Below.alloc ?_ (by first | (simp; done) | omega | (simp; omega)) _) | (refine Below.setCell ?_ (by first | (simp; done) | omega | (simp; omega)) _) | (refine Below.trans ?_ (Below.mono (by assumption) (by first | (simp; done) | omega | (simp; omega)))))); done)); rintro e w4 ⟨rfl, hb4⟩))
    go_ret
    exact ⟨rfl, (by ((repeat (first | exact Below.refl _ _ | (refine Below.drew ?_) | (refine Go.below_drewN ?_ _) | (refine Below.alloc ?_ (by first | (simp; done) | omega | (simp; omega)) _) | (refine Below.setCell ?_ (by first | (simp; done) | omega | (simp; omega)) _) | (refine Below.trans ?_ (Below.mono (by assumption) (by first | (simp; done) | omega | (simp; omega)))))); done))⟩
theorem bursts_law (v : Value) (a : Vl) (z c : Int) (w : World) (hv : VRd w v a) (hz : (Lit.int .i64 z).wf = true) (hc : (Lit.int .u16 c).wf = true) (hh : Hv w) : Calls Tryd.prog 6 #[v, .int .i64 z, .int .u16 c] w fun e w' => e = .returned (.bool true) ∧ Below w.heap.size w w' := by
  have h1 : IntKind.i64.min ≤ z ∧ z ≤ 9223372036854775807 := by simpa [Lit.wf] using hz
  have h2 : IntKind.u16.min ≤ c ∧ c ≤ IntKind.u16.max := by simpa [Lit.wf] using hc
  have e1 : IntKind.u16.min = 0 := by decide
  have e2 : IntKind.u16.max = 65535 := by decide
  rw [e1, e2] at h2
  obtain ⟨T, rfl⟩ : ∃ T : Nat, c = T := ⟨c.toNat, by omega⟩
  exact bursts_is v a z T w hv h1.2 (by omega) hh
end Go.Proofs.YtdpgkihecpjijaaDoor.T
