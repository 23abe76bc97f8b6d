/- What turned bits do to the sum. No program in sight. -/
import Derived.WalkKit
import Derived.KernelRfl
import Derived.Test.YtdpgkihecpjijaaDoorVh0
namespace Go.Proofs.YtdpgkihecpjijaaDoor.T
open Go Go.RowKit
set_option maxRecDepth 100000
set_option maxHeartbeats 4000000
set_option linter.unusedVariables false
/-- So many bits. -/
def shP : Nat → BitVec 16 → BitVec 16
  | 0, c => c
  | n + 1, c => shP n (sh c)
theorem shP_xor : ∀ (n : Nat) (a b : BitVec 16), shP n (a ^^^ b) = shP n a ^^^ shP n b
  | 0, _, _ => rfl
  | n + 1, a, b => by show shP n (sh (a ^^^ b)) = _; rw [sh_xor, shP_xor n]; rfl
theorem shP_add : ∀ (b a : Nat) (c : BitVec 16), shP (a + b) c = shP a (shP b c)
  | 0, _, _ => rfl
  | b + 1, a, c => by show shP (a + b) (sh c) = _; rw [shP_add b a]; rfl
theorem shP_zero : ∀ n, shP n 0#16 = 0#16
  | 0 => rfl
  | n + 1 => by show shP n (sh 0#16) = _; rw [sh_zero]; exact shP_zero n
theorem shP8 (c : BitVec 16) : shP 8 c = sh8 c := rfl
theorem sh_eq_zero {c : BitVec 16} (h : sh c = 0#16) : c = 0#16 := by
  apply BitVec.eq_of_toNat_eq
  have hc := c.isLt
  unfold sh at h
  by_cases hm : c.msb = true
  · rw [if_pos hm] at h
    exfalso
    have e : c <<< 1 = 0x1021#16 := by
      have := congrArg (fun x => x ^^^ 0x1021#16) h
      simpa [BitVec.xor_assoc] using this
    have := congrArg BitVec.toNat e
    rw [BitVec.toNat_shiftLeft, Nat.shiftLeft_eq] at this
    have h2 : (0x1021#16).toNat = 4129 := rfl
    omega
  · rw [if_neg hm] at h
    have := congrArg BitVec.toNat h
    rw [BitVec.toNat_shiftLeft, Nat.shiftLeft_eq] at this
    have hm2 : c.msb = false := by simpa using hm
    rw [BitVec.msb_eq_decide] at hm2
    simp at hm2
    have h2 : (0#16).toNat = 0 := rfl
    omega
theorem shP_eq_zero : ∀ {n : Nat} {c : BitVec 16}, shP n c = 0#16 → c = 0#16
  | 0, _, h => h
  | n + 1, c, h => sh_eq_zero (shP_eq_zero (n := n) h)
theorem xor256 (x y : UInt8) : BitVec.ofNat 16 ((x ^^^ y).toNat * 256) = BitVec.ofNat 16 (x.toNat * 256) ^^^ BitVec.ofNat 16 (y.toNat * 256) := by
  apply BitVec.eq_of_toNat_eq
  have hx := x.toNat_lt
  have hy := y.toNat_lt
  have hxy := (x ^^^ y).toNat_lt
  rw [BitVec.toNat_xor, BitVec.toNat_ofNat, BitVec.toNat_ofNat, BitVec.toNat_ofNat, Nat.mod_eq_of_lt (by omega), Nat.mod_eq_of_lt (by omega), Nat.mod_eq_of_lt (by omega), UInt8.toNat_xor]
  have := Nat.shiftLeft_xor_distrib (a := x.toNat) (b := y.toNat) (i := 8)
  simpa [Nat.shiftLeft_eq] using this
theorem stepB_add (c d : BitVec 16) (x : UInt8) : stepB (c ^^^ d) x = stepB c x ^^^ shP 8 d := by
  unfold stepB
  rw [shP8, ← sh8_xor]
  congr 1
  rw [BitVec.xor_assoc, BitVec.xor_comm d, ← BitVec.xor_assoc]
theorem crc_add : ∀ (l : List UInt8) (c d : BitVec 16), crcL (c ^^^ d) l = crcL c l ^^^ shP (8 * l.length) d
  | [], c, d => rfl
  | x :: l, c, d => by
    show crcL (stepB (c ^^^ d) x) l = crcL (stepB c x) l ^^^ _
    rw [stepB_add, crc_add l, ← shP_add, List.length_cons, show 8 * l.length + 8 = 8 * (l.length + 1) by omega]
theorem unit8 : ∀ r : Fin 8, sh8 (BitVec.ofNat 16 (((128 : UInt8) >>> (UInt8.ofNat r.val)).toNat * 256)) = shP (8 - r.val) 0x8000#16 := by decide +kernel
/-- A bit of a row of bytes turned. -/
def flip (l : List UInt8) (k : Nat) : List UInt8 := l.set (k / 8) (l.getD (k / 8) 0 ^^^ ((128 : UInt8) >>> (UInt8.ofNat (k % 8))))
theorem flip_len (l : List UInt8) (k : Nat) : (flip l k).length = l.length := by simp [flip]
theorem crc_flip : ∀ (l : List UInt8) (c : BitVec 16) (k : Nat), k < 8 * l.length → crcL c (flip l k) = crcL c l ^^^ shP (8 * l.length - k) 0x8000#16
  | [], _, k, h => by simp at h
  | x :: l, c, k, h => by
    by_cases hk : k < 8
    · have h0 : k / 8 = 0 := by omega
      have hm : k % 8 = k := by omega
      have e : flip (x :: l) k = (x ^^^ ((128 : UInt8) >>> (UInt8.ofNat k))) :: l := by simp [flip, h0, hm]
      rw [e]
      show crcL (stepB c _) l = crcL (stepB c x) l ^^^ _
      have e2 : stepB c (x ^^^ ((128 : UInt8) >>> (UInt8.ofNat k))) = stepB c x ^^^ shP (8 - k) 0x8000#16 := by
        have := unit8 ⟨k, hk⟩
        dsimp only at this
        unfold stepB
        rw [xor256, ← this, ← sh8_xor, BitVec.xor_assoc]
      rw [e2, crc_add, ← shP_add, List.length_cons, show 8 * l.length + (8 - k) = 8 * (l.length + 1) - k by omega]
    · have h1 : k / 8 = (k - 8) / 8 + 1 := by omega
      have hm : k % 8 = (k - 8) % 8 := by omega
      have e : flip (x :: l) k = x :: flip l (k - 8) := by simp [flip, h1, hm]
      rw [e]
      show crcL (stepB c x) (flip l (k - 8)) = crcL (stepB c x) l ^^^ _
      rw [crc_flip l _ _ (by simp at h; omega), List.length_cons, show 8 * l.length - (k - 8) = 8 * (l.length + 1) - k by omega]
theorem bit_up : ∀ i : Fin 16, shP i.val (0x8000#16 >>> i.val) = 0x8000#16 := by decide +kernel
theorem crc_flip_at {l : List UInt8} {c : BitVec 16} {a i : Nat} (hi : i < 16) (h : a + i < 8 * l.length) : crcL c (flip l (a + i)) = crcL c l ^^^ shP (8 * l.length - a) (0x8000#16 >>> i) := by
  rw [crc_flip _ _ _ h, show 8 * l.length - a = (8 * l.length - (a + i)) + i by omega, shP_add]
  have := bit_up ⟨i, hi⟩
  dsimp only at this
  rw [this]
theorem bit_new : ∀ i : Fin 16, (0x8000#16 >>> i.val).toNat = 2 ^ (15 - i.val) := by decide +kernel
theorem turn_new {P : BitVec 16} {i : Nat} (hi : i < 16) (hP : P.toNat % 2 ^ (16 - i) = 0) : (P ^^^ (0x8000#16 >>> i)).toNat % 2 ^ (16 - (i + 1)) = 0 ∧ P ^^^ (0x8000#16 >>> i) ≠ 0#16 := by
  have hb := bit_new ⟨i, hi⟩
  dsimp only at hb
  obtain ⟨m, hm⟩ : ∃ m, m = 15 - i := ⟨_, rfl⟩
  have h1 : 16 - i = m + 1 := by omega
  have h2 : 16 - (i + 1) = m := by omega
  rw [h1] at hP
  rw [← hm] at hb
  rw [h2]
  constructor
  · rw [BitVec.toNat_xor, hb, Nat.xor_mod_two_pow, Nat.mod_self]
    have : P.toNat % 2 ^ m = 0 := by
      have h3 := Nat.mod_mod_of_dvd P.toNat (Nat.pow_dvd_pow 2 (Nat.le_succ m))
      rw [← h3, show Nat.succ m = m + 1 from rfl, hP]; simp
    rw [this]; rfl
  · intro e
    have e2 : P = 0x8000#16 >>> i := by
      have := congrArg (fun x => x ^^^ (0x8000#16 >>> i)) e
      simpa [BitVec.xor_assoc] using this
    rw [e2, hb] at hP
    have : 2 ^ m % 2 ^ (m + 1) = 2 ^ m := Nat.mod_eq_of_lt (Nat.pow_lt_pow_right (by decide) (by omega))
    have h3 := Nat.two_pow_pos m
    omega
theorem turn_old {P : BitVec 16} {i : Nat} (hi : i < 16) (hP : P.toNat % 2 ^ (16 - i) = 0) : P.toNat % 2 ^ (16 - (i + 1)) = 0 := by
  have h3 := Nat.mod_mod_of_dvd P.toNat (Nat.pow_dvd_pow 2 (show 16 - (i + 1) ≤ 16 - i by omega))
  rw [← h3, hP]; simp
theorem small8 : ∀ b : Fin 256, sh8 (BitVec.ofNat 16 b.val) = BitVec.ofNat 16 (b.val * 256) := by decide +kernel
theorem two_bytes (c : BitVec 16) (x y : UInt8) : crcL c [x, y] = shP 16 (c ^^^ BitVec.ofNat 16 (x.toNat * 256) ^^^ BitVec.ofNat 16 y.toNat) := by
  show stepB (stepB c x) y = _
  unfold stepB
  have hy := small8 ⟨y.toNat, y.toNat_lt⟩
  dsimp only at hy
  rw [← hy, ← sh8_xor]
  have e : shP 16 = fun z => sh8 (sh8 z) := rfl
  rw [e]
theorem crc_append (c : BitVec 16) (l m : List UInt8) : crcL c (l ++ m) = crcL (crcL c l) m := by unfold crcL; rw [List.foldl_append]
end Go.Proofs.YtdpgkihecpjijaaDoor.T
