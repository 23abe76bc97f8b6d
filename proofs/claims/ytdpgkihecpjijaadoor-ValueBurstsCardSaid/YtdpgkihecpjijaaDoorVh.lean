import Derived.Deep.DeepCutAuto
import Derived.Test.YtdpgkihecpjijaaDoorProg
import Derived.Test.YtdpgkihecpjijaaDoorMem
import Derived.Test.YtdpgkihecpjijaaDoorVa
import Derived.Test.YtdpgkihecpjijaaDoorVb
import Derived.Test.YtdpgkihecpjijaaDoorVc
import Derived.Test.YtdpgkihecpjijaaDoorVd
import Derived.Test.YtdpgkihecpjijaaDoorVe
import Derived.Test.YtdpgkihecpjijaaDoorVf
import Derived.Test.YtdpgkihecpjijaaDoorVh0
import Derived.WalkKit
import Derived.Outline
import Derived.WalkLawsBesides
import Derived.Deep.QuietTactic
import Derived.BigQuiet
import Derived.Lib.Hide
import Derived.Handy
import Derived.Deep.RegionHeld3
import Derived.Deep.DrawnRows
import Derived.KernelRfl
import Derived.Sort.Walk0
import Derived.Great.Walk
import Derived.Test.YtdpgkihecpjijaaDoorOwn
namespace Go.Proofs.YtdpgkihecpjijaaDoor.T
open Go Go.RowKit Mem Own
set_option maxRecDepth 100000
set_option maxHeartbeats 1000000
set_option linter.unusedVariables false
set_option linter.unusedSimpArgs false

/-- From address A on lie the bytes l. -/
def Rd8 (w : World) (A : Option Addr) (l : List UInt8) : Prop := l = [] ∨ ∃ b off, A = some ⟨b, off, none⟩ ∧ ∀ i x, l[i]? = some x → w.cell? ⟨b, off + i, none⟩ = some (.int .u8 (x.toNat : Int))
theorem Rd8.below {w w' : World} {A : Option Addr} {l : List UInt8} (h : Rd8 w A l) (hb : Below w.heap.size w w') : Rd8 w' A l := by
  rcases h with h | ⟨b, off, rfl, h⟩
  · exact .inl h
  · exact .inr ⟨b, off, rfl, fun i x hx => cell_below hb (h i x hx)⟩
theorem Rd8.cell {w : World} {b off : Nat} {l : List UInt8} {k : Nat} (h : Rd8 w (some ⟨b, off, none⟩) l) (hk : k < l.length) : w.cell? ⟨b, off + k, none⟩ = some (.int .u8 (l[k].toNat : Int)) := by
  rcases h with rfl | ⟨b', off', e, h⟩
  · simp at hk
  · injection e with e; injection e with e1 e2; subst e1; subst e2
    exact h k _ (List.getElem?_eq_getElem hk)
theorem Rd8.addr {w : World} {A : Option Addr} {l : List UInt8} (h : Rd8 w A l) (hl : 0 < l.length) : ∃ b off, A = some ⟨b, off, none⟩ := by
  rcases h with rfl | ⟨b, off, e, h⟩
  · simp at hl
  · exact ⟨b, off, e⟩
def Hv (w : World) : Prop := ∀ i, i < 16 → w.cell? ⟨0, i, none⟩ = some (.int .u16 (hz.getD i 0))
theorem Hv.below {w w' : World} (h : Hv w) (hb : Below w.heap.size w w') : Hv w' := fun i hi => cell_below hb (h i hi)
theorem more_is (A : Option Addr) (l : List UInt8) (cp : Nat) (c : BitVec 16) (w : World) (ha : Rd8 w A l) (hn : l.length ≤ maxLen) (hh : Hv w) :
    Calls Tryd.prog 52 #[.int .u16 (c.toNat : Int), .slice A l.length cp] w fun e w' => e = .returned (.int .u16 ((crcL c l).toNat : Int)) ∧ w = w' := by
  unfold maxLen at hn
  have HA := Lib.hid ha; have HH := Lib.hid hh
  clear ha hh
  go_enter Tryd.func52, Tryd.ntmps52
  go_wp2_with fail
  go_loop [0, 9] (fun s x => ∃ (k : Nat) (d : BitVec 16), k ≤ l.length ∧ x = .int .i64 k ∧ s = .int .u16 (d.toNat : Int) ∧ RowKit.Hid (d = crcL c (l.take k))) (fun _ x => l.length - (intOf x).toNat)
  case atStart => exact ⟨0, c, Nat.zero_le _, rfl, rfl, Lib.hid (by simp [crcL])⟩
  case round =>
    obtain ⟨k, d, hk, rfl, rfl, HD⟩ := hrel
    by_cases hlt : k < l.length
    · obtain ⟨b1, o1, rfl⟩ := HA.out.addr (by omega)
      have g1 := HA.out.cell hlt
      obtain ⟨x, hx⟩ : ∃ x, x = l[k] := ⟨_, rfl⟩
      rw [← hx] at g1
      have HX := Lib.hid hx
      clear hx
      have hd := d.isLt
      have hx256 := x.toNat_lt
      obtain ⟨e0, he0⟩ : ∃ e0, e0 = d ^^^ BitVec.ofNat 16 (x.toNat * 256) := ⟨_, rfl⟩
      obtain ⟨e1, he1⟩ : ∃ e1, e1 = sh (sh (sh (sh e0))) := ⟨_, rfl⟩
      obtain ⟨e2, he2⟩ : ∃ e2, e2 = sh (sh (sh (sh e1))) := ⟨_, rfl⟩
      have r0 : bits .xor .u16 (d.toNat : Int) ((x.toNat : Int) * 256) = (e0.toNat : Int) := by rw [xor_in, he0]
      have r1 : bits .xor .u16 (IntKind.u16.wrap ((e0.toNat : Int) * 16)) (hz.getD (e0.toNat / 4096) 0) = (e1.toNat : Int) := by rw [quad, he1]
      have r2 : bits .xor .u16 (IntKind.u16.wrap ((e1.toNat : Int) * 16)) (hz.getD (e1.toNat / 4096) 0) = (e2.toNat : Int) := by rw [quad, he2]
      have l0 := e0.isLt
      have l1 := e1.isLt
      have n0 : ((e0.toNat : Int) / 4096).toNat = e0.toNat / 4096 := by omega
      have n1 : ((e1.toNat : Int) / 4096).toNat = e1.toNat / 4096 := by omega
      have q0 := HH.out (e0.toNat / 4096) (by omega)
      have q1 := HH.out (e1.toNat / 4096) (by omega)
      obtain ⟨z0, hz0⟩ : ∃ z, z = hz.getD (e0.toNat / 4096) 0 := ⟨_, rfl⟩
      obtain ⟨z1, hz1⟩ : ∃ z, z = hz.getD (e1.toNat / 4096) 0 := ⟨_, rfl⟩
      rw [← hz0] at r1 q0
      rw [← hz1] at r2 q1
      clear hz0 hz1
      have HE := Lib.hid (show e2 = stepB d x by rw [he2, he1, he0]; rfl)
      clear he0 he1 he2
      go_wp2
      refine ⟨⟨k + 1, e2, by omega, by go_num, rfl, Lib.hid ?_⟩, by simp [intOf]; omega⟩
      rw [HE.out, HD.out, HX.out, List.take_succ_eq_append_getElem hlt]
      unfold crcL; rw [List.foldl_append]; rfl
    · go_wp2
      go_ret
      exact ⟨ret_int (by rw [HD.out, List.take_of_length_le (by omega)]), rfl⟩
theorem sum_is (A : Option Addr) (l : List UInt8) (cp : Nat) (w : World) (ha : Rd8 w A l) (hn : l.length ≤ maxLen) (hh : Hv w) :
    Calls Tryd.prog 29 #[.slice A l.length cp] w fun e w' => e = .returned (.int .u16 ((crcL 0#16 l).toNat : Int)) ∧ w = w' := by
  have HM := Lib.hid (show Calls Tryd.prog 52 #[.int .u16 0, .slice A l.length cp] w fun e w' => e = .returned (.int .u16 ((crcL 0#16 l).toNat : Int)) ∧ w = w' from more_is A l cp 0#16 w ha hn hh)
  clear ha hh
  go_enter Tryd.func29, Tryd.ntmps29
  go_wp2_with (go_at_call 52; refine HM.out.mono ?_; rintro e w1 ⟨rfl, rfl⟩)
  go_ret
  exact ⟨rfl, rfl⟩
end Go.Proofs.YtdpgkihecpjijaaDoor.T
