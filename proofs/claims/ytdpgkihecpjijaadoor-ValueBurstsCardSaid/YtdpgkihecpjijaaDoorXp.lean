import Derived.Deep.DeepCutAuto
import Derived.Laws.OwnMore
import Derived.OwnWalk
import Derived.Lib.AppendStr
import Derived.Laws.IdiomStrings
import Derived.Lib.ConvBytes
import Derived.Lib.SmallJoins
import Derived.IntWalk
import Derived.Deep.AppendLies
import Derived.Deep.RegionLaw
import Derived.Test.YtdpgkihecpjijaaDoorProg
import Derived.Test.YtdpgkihecpjijaaDoorMem
import Derived.Test.YtdpgkihecpjijaaDoorVw
import Derived.Test.YtdpgkihecpjijaaDoorVx
import Derived.Test.YtdpgkihecpjijaaDoorWc
import Derived.Test.YtdpgkihecpjijaaDoorWf
import Derived.Test.YtdpgkihecpjijaaDoorXj
import Derived.Test.YtdpgkihecpjijaaDoorXo
import Derived.WalkKit
import Derived.Outline
import Derived.WalkLawsBesides
import Derived.Deep.QuietTactic
import Derived.BigQuiet
import Derived.Lib.Hide
import Derived.Handy
import Derived.Deep.RegionHeld3
import Derived.Deep.DrawnRows
import Derived.KernelRfl
import Derived.Great.Walk
import Derived.Test.YtdpgkihecpjijaaDoorOwn
namespace Go.Proofs.YtdpgkihecpjijaaDoor.T
open Go Go.RowKit Mem Own
set_option maxRecDepth 100000
set_option maxHeartbeats 1000000
set_option linter.unusedVariables false
set_option linter.unusedSimpArgs false

/-- The sum of bytes that end in their sum is 0. -/
theorem crc_self (h : List UInt8) : crcL 0#16 (h ++ sumB h) = 0#16 := by
  rw [crc_append]
  unfold sumB two16
  rw [two_bytes]
  obtain ⟨c, hc⟩ : ∃ c, c = crcL 0#16 h := ⟨_, rfl⟩
  rw [← hc]
  have hl := c.isLt
  have e : c ^^^ BitVec.ofNat 16 ((UInt8.ofNat (c.toNat / 256)).toNat * 256) ^^^ BitVec.ofNat 16 (UInt8.ofNat c.toNat).toNat = 0#16 := by
    have h1 : (UInt8.ofNat (c.toNat / 256)).toNat = c.toNat / 256 := by rw [UInt8.toNat_ofNat']; exact Nat.mod_eq_of_lt (by omega)
    have h2 : (UInt8.ofNat c.toNat).toNat = c.toNat % 256 := by rw [UInt8.toNat_ofNat']
    rw [h1, h2]
    apply BitVec.eq_of_toNat_eq
    rw [BitVec.toNat_xor, BitVec.toNat_xor, BitVec.toNat_ofNat, BitVec.toNat_ofNat, Nat.mod_eq_of_lt (by omega), Nat.mod_eq_of_lt (by omega), Nat.xor_assoc]
    have h3 : c.toNat / 256 * 256 ^^^ c.toNat % 256 = c.toNat := by
      have h4 := Nat.two_pow_add_eq_or_of_lt (i := 8) (b := c.toNat % 256) (by omega) (c.toNat / 256)
      have h5 : c.toNat / 256 * 256 ^^^ c.toNat % 256 = 2 ^ 8 * (c.toNat / 256) + c.toNat % 256 := by
        rw [show c.toNat / 256 * 256 = 2 ^ 8 * (c.toNat / 256) by omega, h4]
        apply Nat.eq_of_testBit_eq
        intro i
        simp only [Nat.testBit_xor, Nat.testBit_or]
        rcases Nat.lt_or_ge i 8 with hi | hi
        · rw [Nat.testBit_two_pow_mul]; simp [show ¬ 8 ≤ i by omega]
        · have : (c.toNat % 256).testBit i = false := Nat.testBit_lt_two_pow (Nat.lt_of_lt_of_le (show c.toNat % 256 < 2 ^ 8 by omega) (Nat.pow_le_pow_right (by omega) hi))
          simp [this]
      rw [h5]; omega
    rw [h3, Nat.xor_self]; rfl
  rw [e]
  exact shP_zero 16
/-- Bytes whose sum isn't 0 are refused for their sum. -/
theorem load_turned {l : List UInt8} {m : Nat} {P : BitVec 16} (h3 : 3 ≤ l.length) (hc : crcL 0#16 l = shP m P) (hP : P ≠ 0#16) : loadV (B l) = (zeroV, 101) := by
  have hs : ¬ sumOk (B l) := by
    intro hs
    have e : l = (headB (B l)).data.toList ++ sumB (headB (B l)).data.toList := by
      rw [show sumB (headB (B l)).data.toList = _ from hs]
      unfold headB
      rw [ext_list, ext_list, B_list, B_list, B_list, B_size, List.drop_zero, Nat.sub_zero]
      rw [List.take_of_length_le (show (l.drop (l.length - 2)).length ≤ l.length - (l.length - 2) by simp), List.take_append_drop]
    rw [e, crc_self] at hc
    exact hP (shP_eq_zero hc.symm)
  unfold loadV
  rw [if_neg (by rw [B_size]; omega), if_pos hs]
/-- What stands of the bits that were turned: those ahead of the i-th. -/
def Turned (l0 : List UInt8) (a i : Nat) (l : List UInt8) (t : Bool) : Prop := l.length = l0.length ∧ ∃ P : BitVec 16, crcL 0#16 l = crcL 0#16 l0 ^^^ shP (8 * l0.length - a) P ∧ P.toNat % 2 ^ (16 - i) = 0 ∧ (t = true → P ≠ 0#16)
theorem turned_zero (l : List UInt8) (a : Nat) : Turned l a 0 l false := ⟨rfl, 0#16, by rw [shP_zero, BitVec.xor_zero], by decide, fun h => by cases h⟩
theorem turned_skip {l0 : List UInt8} {a i : Nat} {l : List UInt8} {t : Bool} (hi : i < 16) (h : Turned l0 a i l t) : Turned l0 a (i + 1) l t := by
  obtain ⟨h1, P, h2, h3, h4⟩ := h
  exact ⟨h1, P, h2, turn_old hi h3, h4⟩
theorem turned_flip {l0 : List UInt8} {a i : Nat} {l : List UInt8} {t : Bool} (hi : i < 16) (hk : a + i < 8 * l0.length) (h : Turned l0 a i l t) : Turned l0 a (i + 1) (flip l (a + i)) true := by
  obtain ⟨h1, P, h2, h3, h4⟩ := h
  obtain ⟨n1, n2⟩ := turn_new hi h3
  refine ⟨by rw [flip_len, h1], _, ?_, n1, fun _ => n2⟩
  rw [crc_flip_at hi (by rw [h1]; exact hk), h2, h1, shP_xor, BitVec.xor_assoc]
theorem turned_end {a : Vl} (hr : RightV a) {at_ i : Nat} {l : List UInt8} (h : Turned (dumpB a) at_ i l true) (h3 : 3 ≤ l.length) : loadV (B l) = (zeroV, 101) := by
  obtain ⟨h1, P, h2, h4, h5⟩ := h
  unfold dumpB at h2
  rw [crc_self, BitVec.zero_xor] at h2
  exact load_turned h3 h2 (h5 rfl)
/-- A row of bytes that may be written into. -/
def RowB (w : World) (g : Nat) (l : List UInt8) : Prop := ∃ (cur : Array Value) (lo hi : Nat), w.heap[g]? = some (.cells cur 5 (lo, hi)) ∧ l.length ≤ lo ∧ ∀ (i : Nat) (x : UInt8), l[i]? = some x → cur[i]? = some (Value.int .u8 (x.toNat : Int))
theorem RowB.keep {w w' : World} {g : Nat} {l : List UInt8} (h : RowB w g l) (hb : Below w.heap.size w w') : RowB w' g l := by
  obtain ⟨cur, lo, hi, h1, h2, h3⟩ := h
  exact ⟨cur, lo, hi, keep_block hb h1, h2, h3⟩
theorem RowB.cell {w : World} {g : Nat} {l : List UInt8} (h : RowB w g l) {i : Nat} (hi : i < l.length) : w.cell? ⟨g, i, none⟩ = some (.int .u8 ((l.getD i 0).toNat : Int)) ∧ w.frozen? ⟨g, i, none⟩ = false := by
  obtain ⟨cur, lo, hi', h1, h2, h3⟩ := h
  have hx : l[i]? = some (l.getD i 0) := by rw [List.getElem?_eq_getElem hi, List.getD_eq_getElem?_getD, List.getElem?_eq_getElem hi]; rfl
  constructor
  · have := h3 i _ hx
    unfold World.cell?
    simp only [h1]
    exact this
  · unfold World.frozen?
    simp only [h1]
    simp; omega
theorem RowB.set {w : World} {g : Nat} {l : List UInt8} (h : RowB w g l) (i : Nat) (x : UInt8) : RowB (w.setCell ⟨g, i, none⟩ (.int .u8 (x.toNat : Int))) g (l.set i x) := by
  obtain ⟨cur, lo, hi, h1, h2, h3⟩ := h
  refine ⟨_, lo, hi, heap_set h1 _, by rw [List.length_set]; exact h2, fun j y hy => ?_⟩
  rw [Array.getElem?_setIfInBounds]
  rw [List.getElem?_set] at hy
  by_cases hij : i = j
  · subst hij
    simp only [if_true] at hy ⊢
    split at hy
    · rename_i hl
      injection hy with hy
      subst hy
      have h4 := h3 i l[i] (List.getElem?_eq_getElem hl)
      rw [if_pos (Array.getElem?_eq_some_iff.1 h4).1]
    · cases hy
  · rw [if_neg hij] at hy ⊢
    exact h3 j y hy
theorem RowB.rd {w : World} {g : Nat} {l : List UInt8} (h : RowB w g l) : ∀ j, (hj : j < l.length) → w.cell? ((⟨g, 0, none⟩ : Addr).add j) = some (.int .u8 (l[j].toNat : Int)) := by
  intro j hj
  have := (h.cell hj).1
  rw [add_off, Nat.zero_add, this, List.getD_eq_getElem?_getD, List.getElem?_eq_getElem hj]
  rfl
theorem row_bw (w : World) (s : ByteArray) : RowB (Lib.bytesWorld w 5 s) w.heap.size s.data.toList := by
  refine ⟨_, _, _, Lib.bytesWorld_at_new w 5 s, by simp [Lib.bytesCells], fun i x hx => ?_⟩
  have hi : i < s.data.toList.length := (List.getElem?_eq_some_iff.1 hx).1
  have hi2 : i < s.data.size := by simpa using hi
  unfold Lib.bytesCells
  rw [Array.getElem?_append, if_pos (by simpa using hi2)]
  have : s.data[i]? = some x := by simpa using hx
  simp [this]
end Go.Proofs.YtdpgkihecpjijaaDoor.T
