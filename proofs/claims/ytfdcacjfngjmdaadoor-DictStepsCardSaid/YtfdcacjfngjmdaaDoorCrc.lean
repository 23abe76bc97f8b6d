/- The sum, plainly: a bit, a byte, four bits by the table; what is left of a burst. No program in sight. -/
import Derived.WalkKit
import Derived.KernelRfl
namespace Go.Proofs.YtfdcacjfngjmdaaDoor.T
open Go Go.RowKit
set_option maxRecDepth 100000
set_option maxHeartbeats 4000000
/-- One bit. -/
def sh (c : BitVec 16) : BitVec 16 := if c.msb then (c <<< 1) ^^^ 0x1021#16 else c <<< 1
def sh8 (c : BitVec 16) : BitVec 16 := sh (sh (sh (sh (sh (sh (sh (sh c)))))))
/-- One byte. -/
def stepB (c : BitVec 16) (x : UInt8) : BitVec 16 := sh8 (c ^^^ BitVec.ofNat 16 (x.toNat * 256))
def crcL (c : BitVec 16) (l : List UInt8) : BitVec 16 := l.foldl stepB c
/-- The table of crc. -/
def hz : List Int := [0x0000, 0x1021, 0x2042, 0x3063, 0x4084, 0x50a5, 0x60c6, 0x70e7, 0x8108, 0x9129, 0xa14a, 0xb16b, 0xc18c, 0xd1ad, 0xe1ce, 0xf1ef]
theorem wrap_u16 (n : Int) : IntKind.u16.wrap n = n % 65536 := by simp [IntKind.wrap, IntKind.bits, IntKind.signed]
theorem bits_xor_u16_nat (a b : Nat) (ha : a < 65536) (hb : b < 65536) : bits .xor .u16 (a : Int) (b : Int) = ((a ^^^ b : Nat) : Int) := by
  have hx : a ^^^ b < 2 ^ 16 := Nat.xor_lt_two_pow (by omega) (by omega)
  have h1 : (BitVec.ofInt 16 (a : Int)).toNat = a := by
    rw [BitVec.ofInt_natCast, BitVec.toNat_ofNat]; exact Nat.mod_eq_of_lt (by omega)
  have h2 : (BitVec.ofInt 16 (b : Int)).toNat = b := by
    rw [BitVec.ofInt_natCast, BitVec.toNat_ofNat]; exact Nat.mod_eq_of_lt (by omega)
  show IntKind.u16.wrap ((BitVec.ofInt 16 (a : Int) ^^^ BitVec.ofInt 16 (b : Int)).toNat : Int) = _
  rw [BitVec.toNat_xor, h1, h2, wrap_u16]
  omega
theorem sh_def (c : BitVec 16) : sh c = (c <<< 1) ^^^ (if c.msb then 0x1021#16 else 0#16) := by
  unfold sh; split <;> simp
theorem sh_xor (a b : BitVec 16) : sh (a ^^^ b) = sh a ^^^ sh b := by
  rw [sh_def, sh_def, sh_def, BitVec.shiftLeft_xor_distrib, BitVec.msb_xor]
  generalize a <<< 1 = x
  generalize b <<< 1 = y
  cases a.msb <;> cases b.msb
  · simp
  · simp [BitVec.xor_assoc]
  · show (x ^^^ y) ^^^ (4129#16) = (x ^^^ 4129#16) ^^^ (y ^^^ 0#16)
    rw [BitVec.xor_zero, BitVec.xor_assoc, BitVec.xor_comm y, ← BitVec.xor_assoc]
  · show (x ^^^ y) ^^^ (0#16) = (x ^^^ 4129#16) ^^^ (y ^^^ 4129#16)
    rw [BitVec.xor_zero, BitVec.xor_comm y, BitVec.xor_assoc, ← BitVec.xor_assoc (4129#16) (4129#16) y, BitVec.xor_self, BitVec.zero_xor]
theorem sh_zero : sh 0#16 = 0#16 := by decide
theorem sh8_xor (a b : BitVec 16) : sh8 (a ^^^ b) = sh8 a ^^^ sh8 b := by unfold sh8; simp only [sh_xor]
theorem sh8_zero : sh8 0#16 = 0#16 := by decide
theorem quad_hi : ∀ h : Fin 16, sh (sh (sh (sh (BitVec.ofNat 16 (h.val * 4096))))) = BitVec.ofNat 16 (hz.getD h.val 0).toNat := by decide +kernel
theorem sh_lo (n : Nat) (h : n < 32768) : sh (BitVec.ofNat 16 n) = BitVec.ofNat 16 (n * 2) := by
  unfold sh
  have hm : (BitVec.ofNat 16 n).msb = false := by
    rw [BitVec.msb_eq_decide]; simp; omega
  rw [hm]
  apply BitVec.eq_of_toNat_eq
  simp [BitVec.toNat_shiftLeft, Nat.shiftLeft_eq]
theorem split16 (e : BitVec 16) : e = BitVec.ofNat 16 (e.toNat / 4096 * 4096) ^^^ BitVec.ofNat 16 (e.toNat % 4096) := by
  apply BitVec.eq_of_toNat_eq
  have he := e.isLt
  rw [BitVec.toNat_xor, BitVec.toNat_ofNat, BitVec.toNat_ofNat, Nat.mod_eq_of_lt (by omega), Nat.mod_eq_of_lt (by omega)]
  have := Nat.two_pow_add_eq_or_of_lt (i := 12) (b := e.toNat % 4096) (by omega) (e.toNat / 4096)
  have h2 : e.toNat / 4096 * 4096 ^^^ e.toNat % 4096 = 2 ^ 12 * (e.toNat / 4096) + e.toNat % 4096 := by
    rw [show e.toNat / 4096 * 4096 = 2 ^ 12 * (e.toNat / 4096) by omega]
    rw [Nat.two_pow_add_eq_or_of_lt (by omega)]
    apply Nat.eq_of_testBit_eq
    intro i
    simp only [Nat.testBit_xor, Nat.testBit_or]
    rcases Nat.lt_or_ge i 12 with hi | hi
    · rw [Nat.testBit_two_pow_mul]; simp [show ¬ 12 ≤ i by omega]
    · have : (e.toNat % 4096).testBit i = false := Nat.testBit_lt_two_pow (Nat.lt_of_lt_of_le (show e.toNat % 4096 < 2 ^ 12 by omega) (Nat.pow_le_pow_right (by omega) hi))
      simp [this]
  rw [h2]; omega
/-- Four bits by the table. -/
theorem quad (e : BitVec 16) : bits .xor .u16 (IntKind.u16.wrap ((e.toNat : Int) * 16)) (hz.getD (e.toNat / 4096) 0) = ((sh (sh (sh (sh e)))).toNat : Int) := by
  have he := e.isLt
  have h1 : sh (sh (sh (sh e))) = BitVec.ofNat 16 (hz.getD (e.toNat / 4096) 0).toNat ^^^ BitVec.ofNat 16 (e.toNat % 4096 * 16) := by
    conv => lhs; rw [split16 e]
    simp only [sh_xor]
    rw [quad_hi ⟨e.toNat / 4096, by omega⟩, sh_lo _ (by omega), sh_lo _ (by omega), sh_lo _ (by omega), sh_lo _ (by omega)]
    congr 2; omega
  have hb : ∀ i : Fin 16, 0 ≤ hz.getD i.val 0 ∧ hz.getD i.val 0 < 65536 := by decide
  obtain ⟨b0, b1⟩ := hb ⟨e.toNat / 4096, by omega⟩
  dsimp only at b0 b1
  obtain ⟨z, hzz⟩ := Int.eq_ofNat_of_zero_le b0
  rw [h1, hzz, BitVec.toNat_xor, BitVec.toNat_ofNat, BitVec.toNat_ofNat, wrap_u16]
  rw [show ((e.toNat : Int) * 16) % 65536 = ((e.toNat % 4096 * 16 : Nat) : Int) by omega]
  rw [bits_xor_u16_nat _ _ (by omega) (by omega)]
  rw [Int.toNat_natCast, Nat.mod_eq_of_lt (show z < 2 ^ 16 by omega), Nat.mod_eq_of_lt (show e.toNat % 4096 * 16 < 2 ^ 16 by omega), Nat.xor_comm]
theorem xor_in (d : BitVec 16) (x : UInt8) : bits .xor .u16 (d.toNat : Int) ((x.toNat : Int) * 256) = ((d ^^^ BitVec.ofNat 16 (x.toNat * 256)).toNat : Int) := by
  have hx := x.toNat_lt
  have hd := d.isLt
  rw [show (x.toNat : Int) * 256 = ((x.toNat * 256 : Nat) : Int) by omega, bits_xor_u16_nat _ _ (by omega) (by omega), BitVec.toNat_xor, BitVec.toNat_ofNat, Nat.mod_eq_of_lt (by omega : x.toNat * 256 < 2 ^ 16)]
end Go.Proofs.YtfdcacjfngjmdaaDoor.T
