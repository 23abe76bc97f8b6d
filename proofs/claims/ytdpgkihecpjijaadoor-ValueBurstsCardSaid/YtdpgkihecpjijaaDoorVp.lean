import Derived.Lib.ConvBytes
import Derived.Lib.SmallJoins
import Derived.IntWalk
import Derived.Test.YtdpgkihecpjijaaDoorVk
import Derived.Test.YtdpgkihecpjijaaDoorVl
import Derived.Test.YtdpgkihecpjijaaDoorVm
import Derived.Test.YtdpgkihecpjijaaDoorVn
import Derived.Test.YtdpgkihecpjijaaDoorVo
import Derived.WalkKit
import Derived.Outline
import Derived.WalkLawsBesides
import Derived.Deep.QuietTactic
import Derived.BigQuiet
import Derived.Lib.Hide
import Derived.Handy
import Derived.Deep.RegionHeld3
import Derived.Deep.DrawnRows
import Derived.KernelRfl
import Derived.Sort.Walk0
import Derived.Great.Walk
import Derived.Test.YtdpgkihecpjijaaDoorOwn
namespace Go.Proofs.YtdpgkihecpjijaaDoor.T
open Go Go.RowKit Mem Own
set_option maxRecDepth 100000
set_option maxHeartbeats 1000000
set_option linter.unusedVariables false
set_option linter.unusedSimpArgs false

theorem dump_is (v : Value) (a : Vl) (w : World) (hv : VRd w v a) (h : RightV a) (hh : Hv w) : Calls Tryd.prog 13 #[v] w (DumpOut a w) := by
  rcases h.2 with ⟨hk, _⟩ | ⟨hk, _⟩ | ⟨hk, _⟩ | ⟨hk, _⟩ | ⟨hk, _⟩
  · exact dump1_is v a w hv h hk hh
  · exact dump2_is v a w hv h hk hh
  · exact dump3_is v a w hv h hk hh
  · exact dump4_is v a w hv h hk hh
  · exact dump5_is v a w hv h hk hh

/-- A reader: what is left, and whether it is bad. -/
def Rdr (w : World) (g : Nat) (s : ByteArray) (bad : Bool) : Prop := w.heap[g]? = some (Obj.cells #[.string s, .bool bad] 52 (0, 0))
theorem Rdr.cells {w : World} {g : Nat} {s : ByteArray} {bad : Bool} (h : Rdr w g s bad) : w.cell? ⟨g, 0, none⟩ = some (.string s) ∧ w.cell? ⟨g, 1, none⟩ = some (.bool bad) ∧ w.frozen? ⟨g, 0, none⟩ = false ∧ w.frozen? ⟨g, 1, none⟩ = false :=
  ⟨of_blk h 0, of_blk h 1, of_blk_free h 0, of_blk_free h 1⟩
theorem only_trans {w w1 w2 : World} {g : Nat} (h : w.grownBy w1 (some g)) (h' : w1.grownBy w2 (some g)) : w.grownBy w2 (some g) :=
  ⟨h'.os.trans h.os, h'.tape.trans h.tape, h'.output.trans h.output, Nat.le_trans h.size h'.size, fun k hk hne => (h'.block k (Nat.lt_of_lt_of_le hk h.size) hne).trans (h.block k hk hne)⟩
theorem only_set (w : World) (g i : Nat) (v : Value) : w.grownBy (w.setCell ⟨g, i, none⟩ v) (some g) :=
  ⟨by simp [World.setCell], by simp [World.setCell], by simp [World.setCell], by simp [World.setCell], fun k hk hne => Below.heap_setCell w ⟨g, i, none⟩ v k (fun e => hne (by rw [e]))⟩
theorem only_below {w w' : World} {g : Nat} (hb : Below w.heap.size w w') : w.grownBy w' (some g) :=
  ⟨hb.os, hb.tape, hb.output, hb.size, fun k hk _ => hb.block k hk⟩
theorem Rdr.keep {w w' : World} {g : Nat} {s : ByteArray} {bad : Bool} (h : Rdr w g s bad) (hb : Below w.heap.size w w') : Rdr w' g s bad := keep_block hb h
/-- The next n bytes. -/
def rdN (n : Nat) (s : ByteArray) (bad : Bool) : ByteArray × ByteArray × Bool := if bad = true ∨ s.size < n then (⟨#[]⟩, s, true) else (s.extract 0 n, s.extract n s.size, false)
/-- What a call on a reader leaves. -/
def RdOut (g : Nat) (v : Value) (s : ByteArray) (bad : Bool) (w : World) (e : Ending) (w' : World) : Prop := e = .returned v ∧ RowKit.Hid (Rdr w' g s bad) ∧ RowKit.Hid (w.grownBy w' (some g))
theorem rd_out {g : Nat} {v v' : Value} {s s' : ByteArray} {bad bad' : Bool} {w w' : World} (h1 : v = v') (h2 : s = s') (h3 : bad = bad') (h : Rdr w' g s bad) (ho : w.grownBy w' (some g)) : RdOut g v' s' bad' w (.returned v) w' := by
  subst h1 h2 h3; exact ⟨rfl, Lib.hid h, Lib.hid ho⟩

/-- reader.bytes -/
theorem rbytes_is (g n : Nat) (s : ByteArray) (bad : Bool) (w : World) (h : Rdr w g s bad) (hs : s.size ≤ maxLen) :
    Calls Tryd.prog 64 #[.pointer (some ⟨g, 0, none⟩), .int .i64 (n : Int)] w (RdOut g (.string (rdN n s bad).1) (rdN n s bad).2.1 (rdN n s bad).2.2 w) := by
  unfold maxLen at hs
  obtain ⟨h0, h1, f0, f1⟩ := h.cells
  have H := Lib.hid h
  clear h
  cases bad
  · by_cases hn : s.size < n
    · have HR := Lib.hid (show rdN n s false = (⟨#[]⟩, s, true) by simp [rdN, hn])
      go_enter Tryd.func64, Tryd.ntmps64
      go_wp2
      go_ret
      exact rd_out (by rw [HR.out]; rfl) (by rw [HR.out]) (by rw [HR.out]) (by have := heap_set (i := 1) H.out (.bool true); simpa [Rdr] using this) (only_set _ _ _ _)
    · have HR := Lib.hid (show rdN n s false = (s.extract 0 n, s.extract n s.size, false) by simp [rdN, hn])
      have hn' : n ≤ s.size := by omega
      go_enter Tryd.func64, Tryd.ntmps64
      go_wp2
      go_ret
      exact rd_out (by rw [HR.out]; rfl) (by rw [HR.out]) (by rw [HR.out]) (by have := heap_set (i := 0) H.out (.string (s.extract n s.size)); simpa [Rdr] using this) (only_set _ _ _ _)
  · have HR := Lib.hid (show rdN n s true = (⟨#[]⟩, s, true) by simp [rdN])
    go_enter Tryd.func64, Tryd.ntmps64
    go_wp2
    go_ret
    exact rd_out (by rw [HR.out]; rfl) (by rw [HR.out]) (by rw [HR.out]) (by have := heap_set (i := 1) H.out (.bool true); simpa [Rdr] using this) (only_set _ _ _ _)
/-- The number that bytes are. -/
def num (l : List UInt8) : Nat := l.foldl (fun x c => x * 256 + c.toNat) 0
theorem num_snoc (l : List UInt8) (c : UInt8) : num (l ++ [c]) = num l * 256 + c.toNat := by simp [num]
theorem num_acc : ∀ (l : List UInt8) (a : Nat), l.foldl (fun x c => x * 256 + c.toNat) a < (a + 1) * 256 ^ l.length
  | [], a => by simp
  | c :: l, a => by
    have := num_acc l (a * 256 + c.toNat)
    have hc := c.toNat_lt
    rw [List.foldl_cons, List.length_cons, Nat.pow_succ]
    refine Nat.lt_of_lt_of_le this ?_
    rw [show (a + 1) * (256 ^ l.length * 256) = ((a + 1) * 256) * 256 ^ l.length by rw [Nat.mul_comm (256 ^ l.length) 256, Nat.mul_assoc]]
    exact Nat.mul_le_mul_right _ (by omega)
theorem num_lt (l : List UInt8) : num l < 256 ^ l.length := by simpa [num] using num_acc l 0
theorem rdN_size (n : Nat) (s : ByteArray) (bad : Bool) : (rdN n s bad).1.size ≤ n := by
  unfold rdN
  split
  · exact Nat.zero_le _
  · simp [ByteArray.size_extract]; omega
theorem rdN_left (n : Nat) (s : ByteArray) (bad : Bool) : (rdN n s bad).2.1.size ≤ s.size := by
  unfold rdN
  split
  · simp
  · simp [ByteArray.size_extract]
theorem or_byte (x c : Nat) (hx : x < 2 ^ 40) (hc : c < 256) : bits .or .i64 ((x : Int) * 256) (c : Int) = ((x * 256 + c : Nat) : Int) := by
  have h1 : (BitVec.ofInt 64 ((x : Int) * 256)).toNat = x * 256 := by
    rw [show (x : Int) * 256 = ((x * 256 : Nat) : Int) by omega, BitVec.ofInt_natCast, BitVec.toNat_ofNat]; exact Nat.mod_eq_of_lt (by omega)
  have h2 : (BitVec.ofInt 64 (c : Int)).toNat = c := by
    rw [BitVec.ofInt_natCast, BitVec.toNat_ofNat]; exact Nat.mod_eq_of_lt (by omega)
  show IntKind.i64.wrap ((BitVec.ofInt 64 ((x : Int) * 256) ||| BitVec.ofInt 64 (c : Int)).toNat : Int) = _
  rw [BitVec.toNat_or, h1, h2]
  have h3 : x * 256 ||| c = x * 256 + c := by
    have := Nat.two_pow_add_eq_or_of_lt (i := 8) (b := c) (by omega) x
    rw [show 2 ^ 8 * x = x * 256 by omega] at this
    exact this.symm
  rw [h3]
  rw [IntKind.wrap_i64]; omega
/-- reader.number -/
theorem rnum_is (g n : Nat) (s : ByteArray) (bad : Bool) (w : World) (h : Rdr w g s bad) (hs : s.size ≤ maxLen) (hn : n ≤ 4) :
    Calls Tryd.prog 56 #[.pointer (some ⟨g, 0, none⟩), .int .i64 (n : Int)] w (RdOut g (.int .i64 (num (rdN n s bad).1.data.toList : Nat)) (rdN n s bad).2.1 (rdN n s bad).2.2 w) := by
  have HB := Lib.hid (rbytes_is g n s bad w h hs)
  obtain ⟨t, ht⟩ : ∃ t, t = (rdN n s bad).1 := ⟨_, rfl⟩
  have hts : t.size ≤ 4 := by have := rdN_size n s bad; rw [ht]; omega
  rw [← ht] at HB ⊢
  clear ht h
  go_enter Tryd.func56, Tryd.ntmps56
  go_wp2_with (go_at_call 64; refine HB.out.mono ?_; rintro e w1 ⟨rfl, HR, HO⟩; have kc := Lib.run_convert_string_bytes (P := Tryd.prog) w1 9 38 5 t Tryd.underlying9 Tryd.underlying38 Tryd.underlying5)
  go_loop [5, 13] (fun x y => ∃ k : Nat, k ≤ t.size ∧ y = .int .i64 k ∧ x = .int .i64 (num (t.data.toList.take k) : Nat)) (fun _ y => t.size - (intOf y).toNat)
  case atStart => exact ⟨0, Nat.zero_le _, rfl, rfl⟩
  case round =>
    obtain ⟨k, hk, rfl, rfl⟩ := hrel
    by_cases hlt : k < t.size
    · have g1 := Lib.bytesWorld_cell w1 5 t k hlt
      obtain ⟨c, hc⟩ : ∃ c, c = t.data.toList.getD k 0 := ⟨_, rfl⟩
      rw [← hc] at g1
      obtain ⟨x, hx⟩ : ∃ x, x = num (t.data.toList.take k) := ⟨_, rfl⟩
      have hxl : x < 2 ^ 40 := by
        rw [hx]
        have := num_lt (t.data.toList.take k)
        have h2 : (t.data.toList.take k).length ≤ 4 := by simp; omega
        exact Nat.lt_of_lt_of_le this (Nat.le_trans (Nat.pow_le_pow_right (by decide) h2) (by decide))
      have r1 := or_byte x c.toNat hxl c.toNat_lt
      have hc256 := c.toNat_lt
      have HNX := Lib.hid (show num (t.data.toList.take (k + 1)) = x * 256 + c.toNat by
        rw [List.take_succ_eq_append_getElem (by simpa using hlt), num_snoc, ← hx, hc]
        simp [hlt])
      rw [← hx]
      clear hx hc
      go_wp2
      exact ⟨⟨k + 1, by omega, by go_num, by rw [HNX.out]; exact congrArg (Value.int .i64) (by omega)⟩, by simp [intOf]; omega⟩
    · have HE := Lib.hid (show t.data.toList.take k = t.data.toList from List.take_of_length_le (by simp; omega))
      go_wp2
      go_ret
      exact ⟨ret_int (by rw [HE.out]), Lib.hid (HR.out.keep (Joins.below_bytesWorld _ w1 5 t (Nat.le_refl _))), Lib.hid (only_trans HO.out (only_below (Joins.below_bytesWorld _ w1 5 t (Nat.le_refl _))))⟩
end Go.Proofs.YtdpgkihecpjijaaDoor.T
