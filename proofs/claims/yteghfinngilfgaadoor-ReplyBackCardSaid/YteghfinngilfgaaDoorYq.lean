import Derived.Deep.DeepCutAuto
import Derived.Laws.OwnMore
import Derived.OwnWalk
import Derived.Lib.AppendStr
import Derived.Lib.SliceRun
import Derived.Lib.SmallJoins
import Derived.IntWalk
import Derived.Lib.ItoaLen
import Derived.WalkMore
import Derived.Lib.AtoiAllCases
import Derived.Lib.OthersKept
import Derived.Laws.Runes
import Derived.Deep.LoopGhost
import Derived.Deep.RegionLaw
import Derived.Deep.AppendLies
import Derived.Test.YteghfinngilfgaaDoorProg
import Derived.Test.YteghfinngilfgaaDoorMem
import Derived.Test.YteghfinngilfgaaDoorYp
import Derived.WalkKit
import Derived.Outline
import Derived.WalkLawsBesides
import Derived.Deep.QuietTactic
import Derived.BigQuiet
import Derived.Lib.Hide
import Derived.Handy
import Derived.Deep.RegionHeld3
import Derived.Deep.DrawnRows
import Derived.KernelRfl
import Derived.Great.Walk
import Derived.Test.YteghfinngilfgaaDoorOwn
namespace Go.Proofs.YteghfinngilfgaaDoor.T
open Go Go.RowKit Go.Sort Mem Own
set_option maxRecDepth 100000
set_option maxHeartbeats 1000000
set_option linter.unusedVariables false
set_option linter.unusedSimpArgs false

theorem ba_get {s : ByteArray} {i : Nat} (h : i < s.size) : s.toList[i]? = some (s[i]'h) := by
  rw [ByteArray.toList_eq, Array.getElem?_toList]
  exact Array.getElem?_eq_getElem (xs := s.data) h
/-- reply.bulk where what is there behind the text is a beginning of "\r\n". -/
theorem bulk_gen (n : Nat) (s : ByteArray) (w : World) (h0 : n < s.size → s.toList[n]? = some 13) (h1 : n + 1 < s.size → s.toList[n + 1]? = some 10) (hz : n ≤ 1048576) (hsz : s.size ≤ 9223372036854775807) :
    Calls Tryd.prog 36 #[.string s, .int .i64 (n : Int)] w fun e w' => e = .returned (if n + 2 ≤ s.size then .tuple #[.string (s.extract 0 n), .int .i64 0] else .tuple #[.string ⟨#[]⟩, .int .i64 40]) ∧ Below w.heap.size w w' := by
  have kn : (convert 42 42 (.slice (some ⟨w.heap.size, 0, none⟩) 2 2)).run Tryd.prog (w.alloc (.cells #[.int .u8 13, .int .u8 10] 5)) = .ok (.slice (some ⟨w.heap.size, 0, none⟩) 2 2) (w.alloc (.cells #[.int .u8 13, .int .u8 10] 5 (2, 3))) := Lib.run_convert_bytes_const (P := Tryd.prog) w 42 5 #[.int .u8 13, .int .u8 10] 2 2 Tryd.underlying42 Tryd.underlying5
  have H0 := Lib.hid (fun (h : n < s.size) => (show s[n]'h = 13 from Option.some.inj ((ba_get h).symm.trans (h0 h))))
  have H1 := Lib.hid (fun (h : n + 1 < s.size) => (show s[n + 1]'h = 10 from Option.some.inj ((ba_get h).symm.trans (h1 h))))
  clear h0 h1
  go_enter Tryd.func36, Tryd.ntmps36
  go_wp2_with fail
  have HB := Lib.hid (show Below w.heap.size w (w.alloc (.cells #[.int .u8 13, .int .u8 10] 5 (2, 3))) from (Below.refl _ _).alloc (Nat.le_refl _) _)
  have hc : (w.alloc (.cells #[.int .u8 13, .int .u8 10] 5 (2, 3))).heap[w.heap.size]? = some (.cells #[.int .u8 13, .int .u8 10] 5 (2, 3)) := Array.getElem?_push_size
  obtain ⟨w1, hw1⟩ : ∃ w1, w1 = w.alloc (.cells #[.int .u8 13, .int .u8 10] 5 (2, 3)) := ⟨_, rfl⟩
  rw [← hw1] at HB hc ⊢
  clear hw1 kn
  have hc0 : w1.cell? ⟨w.heap.size, 0, none⟩ = some (.int .u8 13) := by simp [World.cell?, hc]
  have hc1 : w1.cell? ⟨w.heap.size, 1, none⟩ = some (.int .u8 10) := by simp [World.cell?, hc]
  clear hc
  obtain ⟨m, hm⟩ : ∃ m, m = s.size := ⟨_, rfl⟩
  go_loopw [11] (fun s11 wr => ∃ i : Nat, i ≤ 2 ∧ s11 = .int .i64 i ∧ wr = w1) (fun s11 _ => 2 - (intOf s11).toNat)
  case atStart => exact ⟨0, by omega, rfl, rfl⟩
  case round =>
    obtain ⟨i, hi, rfl, rfl⟩ := hrel
    rcases (show i = 0 ∨ i = 1 ∨ i = 2 by omega) with rfl | rfl | rfl
    · by_cases hlt : n < s.size
      · have hg : s[n]'hlt = 13 := H0.out hlt
        have e1 : decide ((n : Int) < (s.size : Int)) = true := by simpa using hlt
        have hwr : IntKind.i64.wrap ((n : Int) + 0) = (n : Int) := by simp; exact wrap_small _ (by omega) (by omega)
        go_wp2_with fail
        exact ⟨⟨1, by omega, rfl, trivial⟩, by simp [intOf]⟩
      · have e1 : decide ((n : Int) < (s.size : Int)) = false := by simpa using hlt
        go_wp2_with fail
        exact ⟨⟨1, by omega, rfl, trivial⟩, by simp [intOf]⟩
    · by_cases hlt : n + 1 < s.size
      · have hg : s[n + 1]'hlt = 10 := H1.out hlt
        have e1 : decide ((n : Int) + 1 < (s.size : Int)) = true := by simp; omega
        go_wp2_with fail
        exact ⟨⟨2, by omega, rfl, trivial⟩, by simp [intOf]⟩
      · have e1 : decide ((n : Int) + 1 < (s.size : Int)) = false := by simp; omega
        go_wp2_with fail
        exact ⟨⟨2, by omega, rfl, trivial⟩, by simp [intOf]⟩
    · go_wp2_with fail
      · go_ret2
        exact ⟨rfl, HB.out⟩
      · go_ret2
        exact ⟨rfl, HB.out⟩
end Go.Proofs.YteghfinngilfgaaDoor.T
