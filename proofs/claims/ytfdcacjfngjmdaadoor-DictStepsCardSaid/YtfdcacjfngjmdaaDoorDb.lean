import Derived.Deep.DeepCutAuto
import Derived.Laws.OwnMore
import Derived.OwnWalk
import Derived.Lib.AppendStr
import Derived.Lib.SliceRun
import Derived.Lib.SmallJoins
import Derived.IntWalk
import Derived.WalkMore
import Derived.Lib.OthersKept
import Derived.Deep.LoopGhost
import Derived.Deep.RegionLaw
import Derived.Deep.AppendLies
import Derived.Test.YtfdcacjfngjmdaaDoorProg
import Derived.Test.YtfdcacjfngjmdaaDoorMem
import Derived.Test.YtfdcacjfngjmdaaDoorBlk
import Derived.Test.YtfdcacjfngjmdaaDoorAp
import Derived.Test.YtfdcacjfngjmdaaDoorCrc
import Derived.WalkKit
import Derived.Outline
import Derived.WalkLawsBesides
import Derived.Deep.QuietTactic
import Derived.BigQuiet
import Derived.Lib.Hide
import Derived.Handy
import Derived.Deep.RegionHeld3
import Derived.Deep.DrawnRows
import Derived.KernelRfl
import Derived.Great.Walk
import Derived.Test.YtfdcacjfngjmdaaDoorOwn
namespace Go.Proofs.YtfdcacjfngjmdaaDoor.T
open Go Go.RowKit Go.Sort Mem Own
set_option maxRecDepth 100000
set_option maxHeartbeats 1000000
set_option linter.unusedVariables false
set_option linter.unusedSimpArgs false

/-- From address A on lie the bytes l. -/
def Rd8 (w : World) (A : Option Addr) (l : List UInt8) : Prop := l = [] ∨ ∃ b off, A = some ⟨b, off, none⟩ ∧ ∀ i x, l[i]? = some x → w.cell? ⟨b, off + i, none⟩ = some (.int .u8 (x.toNat : Int))
theorem Rd8.below {w w' : World} {A : Option Addr} {l : List UInt8} (h : Rd8 w A l) (hb : Below w.heap.size w w') : Rd8 w' A l := by
  rcases h with h | ⟨b, off, rfl, h⟩
  · exact .inl h
  · exact .inr ⟨b, off, rfl, fun i x hx => cell_below hb (h i x hx)⟩
theorem Rd8.cell {w : World} {b off : Nat} {l : List UInt8} {k : Nat} (h : Rd8 w (some ⟨b, off, none⟩) l) (hk : k < l.length) : w.cell? ⟨b, off + k, none⟩ = some (.int .u8 (l[k].toNat : Int)) := by
  rcases h with rfl | ⟨b', off', e, h⟩
  · simp at hk
  · injection e with e; injection e with e1 e2; subst e1; subst e2
    exact h k _ (List.getElem?_eq_getElem hk)
theorem Rd8.addr {w : World} {A : Option Addr} {l : List UInt8} (h : Rd8 w A l) (hl : 0 < l.length) : ∃ b off, A = some ⟨b, off, none⟩ := by
  rcases h with rfl | ⟨b, off, e, h⟩
  · simp at hl
  · exact ⟨b, off, e⟩
def Hv (w : World) : Prop := ∀ i, i < 16 → w.cell? ⟨0, i, none⟩ = some (.int .u16 (hz.getD i 0))
theorem Hv.below {w w' : World} (h : Hv w) (hb : Below w.heap.size w w') : Hv w' := fun i hi => cell_below hb (h i hi)
theorem more_is (A : Option Addr) (l : List UInt8) (cp : Nat) (c : BitVec 16) (w : World) (ha : Rd8 w A l) (hn : l.length ≤ maxLen) (hh : Hv w) :
    Calls Tryd.prog 53 #[.int .u16 (c.toNat : Int), .slice A l.length cp] w fun e w' => e = .returned (.int .u16 ((crcL c l).toNat : Int)) ∧ w = w' := by
  unfold maxLen at hn
  have HA := Lib.hid ha; have HH := Lib.hid hh
  clear ha hh
  go_enter Tryd.func53, Tryd.ntmps53
  go_wp2_with fail
  go_loop [0, 9] (fun s x => ∃ (k : Nat) (d : BitVec 16), k ≤ l.length ∧ x = .int .i64 k ∧ s = .int .u16 (d.toNat : Int) ∧ RowKit.Hid (d = crcL c (l.take k))) (fun _ x => l.length - (intOf x).toNat)
  case atStart => exact ⟨0, c, Nat.zero_le _, rfl, rfl, Lib.hid (by simp [crcL])⟩
  case round =>
    obtain ⟨k, d, hk, rfl, rfl, HD⟩ := hrel
    by_cases hlt : k < l.length
    · obtain ⟨b1, o1, rfl⟩ := HA.out.addr (by omega)
      have g1 := HA.out.cell hlt
      obtain ⟨x, hx⟩ : ∃ x, x = l[k] := ⟨_, rfl⟩
      rw [← hx] at g1
      have HX := Lib.hid hx
      clear hx
      have hd := d.isLt
      have hx256 := x.toNat_lt
      obtain ⟨e0, he0⟩ : ∃ e0, e0 = d ^^^ BitVec.ofNat 16 (x.toNat * 256) := ⟨_, rfl⟩
      obtain ⟨e1, he1⟩ : ∃ e1, e1 = sh (sh (sh (sh e0))) := ⟨_, rfl⟩
      obtain ⟨e2, he2⟩ : ∃ e2, e2 = sh (sh (sh (sh e1))) := ⟨_, rfl⟩
      have r0 : bits .xor .u16 (d.toNat : Int) ((x.toNat : Int) * 256) = (e0.toNat : Int) := by rw [xor_in, he0]
      have r1 : bits .xor .u16 (IntKind.u16.wrap ((e0.toNat : Int) * 16)) (hz.getD (e0.toNat / 4096) 0) = (e1.toNat : Int) := by rw [quad, he1]
      have r2 : bits .xor .u16 (IntKind.u16.wrap ((e1.toNat : Int) * 16)) (hz.getD (e1.toNat / 4096) 0) = (e2.toNat : Int) := by rw [quad, he2]
      have l0 := e0.isLt
      have l1 := e1.isLt
      have n0 : ((e0.toNat : Int) / 4096).toNat = e0.toNat / 4096 := by omega
      have n1 : ((e1.toNat : Int) / 4096).toNat = e1.toNat / 4096 := by omega
      have q0 := HH.out (e0.toNat / 4096) (by omega)
      have q1 := HH.out (e1.toNat / 4096) (by omega)
      obtain ⟨z0, hz0⟩ : ∃ z, z = hz.getD (e0.toNat / 4096) 0 := ⟨_, rfl⟩
      obtain ⟨z1, hz1⟩ : ∃ z, z = hz.getD (e1.toNat / 4096) 0 := ⟨_, rfl⟩
      rw [← hz0] at r1 q0
      rw [← hz1] at r2 q1
      clear hz0 hz1
      have HE := Lib.hid (show e2 = stepB d x by rw [he2, he1, he0]; rfl)
      clear he0 he1 he2
      go_wp2
      refine ⟨⟨k + 1, e2, by omega, by go_num, rfl, Lib.hid ?_⟩, by simp [intOf]; omega⟩
      rw [HE.out, HD.out, HX.out, List.take_succ_eq_append_getElem hlt]
      unfold crcL; rw [List.foldl_append]; rfl
    · go_wp2
      go_ret
      exact ⟨ret_int (by rw [HD.out, List.take_of_length_le (by omega)]), rfl⟩
theorem sum_is (A : Option Addr) (l : List UInt8) (cp : Nat) (w : World) (ha : Rd8 w A l) (hn : l.length ≤ maxLen) (hh : Hv w) :
    Calls Tryd.prog 46 #[.slice A l.length cp] w fun e w' => e = .returned (.int .u16 ((crcL 0#16 l).toNat : Int)) ∧ w = w' := by
  have HM := Lib.hid (show Calls Tryd.prog 53 #[.int .u16 0, .slice A l.length cp] w fun e w' => e = .returned (.int .u16 ((crcL 0#16 l).toNat : Int)) ∧ w = w' from more_is A l cp 0#16 w ha hn hh)
  clear ha hh
  go_enter Tryd.func46, Tryd.ntmps46
  go_wp2_with (go_at_call 53; refine HM.out.mono ?_; rintro e w1 ⟨rfl, rfl⟩)
  go_ret
  exact ⟨rfl, rfl⟩
theorem bw_rd (w : World) (s : ByteArray) : Rd8 (Lib.bytesWorld w 5 s) (some ⟨w.heap.size, 0, none⟩) s.data.toList := by
  refine .inr ⟨w.heap.size, 0, rfl, fun i x hx => ?_⟩
  have hi : i < s.data.toList.length := (List.getElem?_eq_some_iff.1 hx).1
  have := Lib.bytesWorld_cell w 5 s i (by simpa using hi)
  rw [Nat.zero_add, this]
  have e : s.data.toList.getD i 0 = x := by simp [List.getD, hx]
  rw [e]
/-- crc.Sum([]byte(t)) -/
theorem sum_bw (b m C : Nat) (t : ByteArray) (c : Nat) (w : World) (hC : (crcL 0#16 t.data.toList).toNat = C) (hb : w.heap.size = b) (hm : t.size = m) (ht : t.size ≤ maxLen) (hh : Hv w) :
    Calls Tryd.prog 46 #[.slice (some ⟨b, 0, none⟩) m c] (Lib.bytesWorld w 5 t) fun e w' => e = .returned (.int .u16 (C : Int)) ∧ Lib.bytesWorld w 5 t = w' := by
  subst hb
  subst hm
  subst hC
  exact sum_is _ t.data.toList c _ (bw_rd w t) (by simpa using ht) (hh.below (Joins.below_bytesWorld _ w 5 t (Nat.le_refl _)))
/-- Where a name lies, ahead of the rest by the number of rooms. -/
def hsh (t : ByteArray) : Nat := (crcL 0#16 t.data.toList).toNat
/-- dict.room -/
theorem room_is (t : ByteArray) (n : Nat) (w : World) (ht : t.size ≤ 9223372036854775807) (hn : 0 < n) (hm : n ≤ 1000000000000) (hh : Hv w) :
    Calls Tryd.prog 32 #[.string t, .int .i64 (n : Int)] w fun e w' => e = .returned (.int .i64 ((hsh t % n : Nat) : Int)) ∧ Below w.heap.size w w' := by
  have hlt : hsh t < 65536 := (crcL 0#16 t.data.toList).isLt
  have kb := fun wx : World => Lib.run_convert_string_bytes (P := Tryd.prog) wx 9 33 5 t Tryd.underlying9 Tryd.underlying33 Tryd.underlying5
  have HS := Lib.hid (fun (c : Nat) => sum_bw w.heap.size t.size (hsh t) t c w rfl rfl rfl (by unfold maxLen; exact ht) hh)
  have HB := Lib.hid (show Below w.heap.size w (Lib.bytesWorld w 5 t) from Joins.below_bytesWorld _ w 5 t (Nat.le_refl _))
  generalize hsh t = h at HS hlt ⊢
  have hmod : (h : Int) % (n : Int) = ((h % n : Nat) : Int) := by omega
  have HM := Lib.hid hmod
  have hnz : ¬ (n : Int) = 0 := by omega
  have hnb : ((n : Int) == 0) = false := by simp; omega
  clear hh hmod
  go_enter Tryd.func32, Tryd.ntmps32
  go_wp2_with (go_at_call 46; refine Calls.mono (HS.out _) ?_; rintro e w1 ⟨rfl, rfl⟩)
  go_ret
  exact ⟨by rw [← HM.out]; rfl, HB.out⟩
end Go.Proofs.YtfdcacjfngjmdaaDoor.T
