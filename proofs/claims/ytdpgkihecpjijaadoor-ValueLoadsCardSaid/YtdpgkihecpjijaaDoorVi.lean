import Derived.Deep.DeepCutAuto
import Derived.Test.YtdpgkihecpjijaaDoorProg
import Derived.Test.YtdpgkihecpjijaaDoorMem
import Derived.Test.YtdpgkihecpjijaaDoorVa
import Derived.Test.YtdpgkihecpjijaaDoorVb
import Derived.Test.YtdpgkihecpjijaaDoorVc
import Derived.Test.YtdpgkihecpjijaaDoorVd
import Derived.Test.YtdpgkihecpjijaaDoorVe
import Derived.Test.YtdpgkihecpjijaaDoorVf
import Derived.Test.YtdpgkihecpjijaaDoorVh0
import Derived.Test.YtdpgkihecpjijaaDoorVh
import Derived.WalkKit
import Derived.Outline
import Derived.WalkLawsBesides
import Derived.Deep.QuietTactic
import Derived.BigQuiet
import Derived.Lib.Hide
import Derived.Handy
import Derived.Deep.RegionHeld3
import Derived.Deep.DrawnRows
import Derived.KernelRfl
import Derived.Sort.Walk0
import Derived.Great.Walk
import Derived.Test.YtdpgkihecpjijaaDoorOwn
namespace Go.Proofs.YtdpgkihecpjijaaDoor.T
open Go Go.RowKit Mem Own
set_option maxRecDepth 100000
set_option maxHeartbeats 1000000
set_option linter.unusedVariables false
set_option linter.unusedSimpArgs false

theorem refbit (d : BitVec 16) : (if 32768 ≤ (d.toNat : Int) then bits .xor .u16 (IntKind.u16.wrap ((d.toNat : Int) * 2)) 4129 else IntKind.u16.wrap ((d.toNat : Int) * 2)) = ((sh d).toNat : Int) := by
  have hd := d.isLt
  unfold sh
  rw [BitVec.msb_eq_decide]
  by_cases h : 32768 ≤ d.toNat
  · rw [if_pos (by omega), if_pos (by simpa using h), wrap_u16, show ((d.toNat : Int) * 2) % 65536 = ((d.toNat * 2 % 65536 : Nat) : Int) by omega, show (4129 : Int) = ((4129 : Nat) : Int) from rfl, bits_xor_u16_nat _ _ (by omega) (by omega)]
    simp [BitVec.toNat_shiftLeft, Nat.shiftLeft_eq]
  · rw [if_neg (by omega), if_neg (by simpa using h), wrap_u16]
    simp [BitVec.toNat_shiftLeft, Nat.shiftLeft_eq]
def shN : Nat → BitVec 16 → BitVec 16
  | 0, c => c
  | n + 1, c => sh (shN n c)
/-- ref01.More -/
theorem rmore_is (A : Option Addr) (l : List UInt8) (cp : Nat) (c : BitVec 16) (w : World) (ha : Rd8 w A l) (hn : l.length ≤ maxLen) :
    Calls Tryd.prog 55 #[.int .u16 (c.toNat : Int), .slice A l.length cp] w fun e w' => e = .returned (.int .u16 ((crcL c l).toNat : Int)) ∧ w = w' := by
  unfold maxLen at hn
  have HA := Lib.hid ha
  clear ha
  go_enter Tryd.func55, Tryd.ntmps55
  go_wp2_with fail
  go_loop [0, 5] (fun s x => ∃ (k : Nat) (d : BitVec 16), k ≤ l.length ∧ x = .int .i64 k ∧ s = .int .u16 (d.toNat : Int) ∧ RowKit.Hid (d = crcL c (l.take k))) (fun _ x => l.length - (intOf x).toNat)
  case atStart => exact ⟨0, c, Nat.zero_le _, rfl, rfl, Lib.hid (by simp [crcL])⟩
  case round =>
    obtain ⟨k, d, hk, rfl, rfl, HD⟩ := hrel
    by_cases hlt : k < l.length
    · obtain ⟨b1, o1, rfl⟩ := HA.out.addr (by omega)
      have g1 := HA.out.cell hlt
      obtain ⟨x, hx⟩ : ∃ x, x = l[k] := ⟨_, rfl⟩
      rw [← hx] at g1
      have HX := Lib.hid hx
      clear hx
      have hd := d.isLt
      have hx256 := x.toNat_lt
      obtain ⟨e0, he0⟩ : ∃ e0, e0 = d ^^^ BitVec.ofNat 16 (x.toNat * 256) := ⟨_, rfl⟩
      have r0 : bits .xor .u16 (d.toNat : Int) ((x.toNat : Int) * 256) = (e0.toNat : Int) := by rw [xor_in, he0]
      have HE := Lib.hid he0
      clear he0
      go_wp2
      go_loop [0, 6] (fun s y => ∃ (j : Nat) (f : BitVec 16), j ≤ 8 ∧ y = .int .i64 j ∧ s = .int .u16 (f.toNat : Int) ∧ RowKit.Hid (f = shN j e0)) (fun _ y => 8 - (intOf y).toNat)
      case atStart => exact ⟨0, e0, by omega, rfl, rfl, Lib.hid rfl⟩
      case round =>
        obtain ⟨j, f, hj, rfl, rfl, HF⟩ := hrel
        have hf := f.isLt
        by_cases hj8 : j < 8
        · obtain ⟨f1, hf1⟩ : ∃ f1, f1 = sh f := ⟨_, rfl⟩
          have hrb := refbit f
          rw [← hf1] at hrb
          have HF1 := Lib.hid hf1
          by_cases hm : 32768 ≤ (f.toNat : Int)
          · rw [if_pos hm] at hrb
            clear hf1
            go_wp2
            exact ⟨⟨j + 1, f1, by omega, by go_num, rfl, Lib.hid (by rw [HF1.out, HF.out]; rfl)⟩, by simp [intOf]; omega⟩
          · rw [if_neg hm] at hrb
            clear hf1
            go_wp2
            exact ⟨⟨j + 1, f1, by omega, by go_num, rfl, Lib.hid (by rw [HF1.out, HF.out]; rfl)⟩, by simp [intOf]; omega⟩
        · have e8 := Lib.hid (show j = 8 by omega)
          go_wp2
          refine ⟨⟨k + 1, f, by omega, by go_num, rfl, Lib.hid ?_⟩, by simp [intOf]; omega⟩
          rw [HF.out, e8.out, HE.out, HD.out, HX.out, List.take_succ_eq_append_getElem hlt]
          unfold crcL; rw [List.foldl_append]; rfl
    · go_wp2
      go_ret
      exact ⟨ret_int (by rw [HD.out, List.take_of_length_le (by omega)]), rfl⟩
theorem rsum_is (A : Option Addr) (l : List UInt8) (cp : Nat) (w : World) (ha : Rd8 w A l) (hn : l.length ≤ maxLen) :
    Calls Tryd.prog 31 #[.slice A l.length cp] w fun e w' => e = .returned (.int .u16 ((crcL 0#16 l).toNat : Int)) ∧ w = w' := by
  have HM := Lib.hid (show Calls Tryd.prog 55 #[.int .u16 0, .slice A l.length cp] w fun e w' => e = .returned (.int .u16 ((crcL 0#16 l).toNat : Int)) ∧ w = w' from rmore_is A l cp 0#16 w ha hn)
  clear ha
  go_enter Tryd.func31, Tryd.ntmps31
  go_wp2_with (go_at_call 55; refine HM.out.mono ?_; rintro e w1 ⟨rfl, rfl⟩)
  go_ret
  exact ⟨rfl, rfl⟩
end Go.Proofs.YtdpgkihecpjijaaDoor.T
