import Derived.Deep.DeepCutAuto
import Derived.Laws.OwnMore
import Derived.OwnWalk
import Derived.Lib.AppendStr
import Derived.Lib.SliceRun
import Derived.Lib.SmallJoins
import Derived.IntWalk
import Derived.Lib.ItoaLen
import Derived.WalkMore
import Derived.Lib.AtoiAllCases
import Derived.Lib.OthersKept
import Derived.Laws.Runes
import Derived.Deep.LoopGhost
import Derived.Deep.RegionLaw
import Derived.Deep.AppendLies
import Derived.Test.YthncmfchphigdaaDoorProg
import Derived.Test.YthncmfchphigdaaDoorMem
import Derived.Test.YthncmfchphigdaaDoorBlk
import Derived.Test.YthncmfchphigdaaDoorShelf
import Derived.WalkKit
import Derived.Outline
import Derived.WalkLawsBesides
import Derived.Deep.QuietTactic
import Derived.BigQuiet
import Derived.Lib.Hide
import Derived.Handy
import Derived.Deep.RegionHeld3
import Derived.Deep.DrawnRows
import Derived.KernelRfl
import Derived.Great.Walk
import Derived.Test.YthncmfchphigdaaDoorOwn
namespace Go.Proofs.YthncmfchphigdaaDoor.T
open Go Go.RowKit Go.Sort Mem Own
set_option maxRecDepth 100000
set_option maxHeartbeats 1000000
set_option linter.unusedVariables false
set_option linter.unusedSimpArgs false

theorem toList_len (s : ByteArray) : s.toList.length = s.size := by rw [ByteArray.toList_eq]; simp
theorem ba_get {s : ByteArray} {i : Nat} (h : i < s.size) : s.toList[i]? = some (s[i]'h) := by rw [ByteArray.toList_eq]; exact Lib.data_getElem? s i h
/-- The signs. -/
def SG : List UInt8 := [43, 45]
theorem zero57 (w : World) : (zeroValue 57).run Tryd.prog w = .ok (.agg (Array.replicate 256 (.bool false))) w := by
  have h : (Tryd.prog.info? 57).bind (fun i => i.zero) = some (.agg (Array.replicate 256 (.bool false))) := by kernel_rfl
  cases hi : Tryd.prog.info? 57 with
  | none => rw [hi] at h; cases h
  | some i =>
    rw [hi] at h
    have h2 : i.zero = some (.agg (Array.replicate 256 (.bool false))) := h
    simp [zeroValue, typeInfo, hi, h2]
theorem info57 : (Tryd.prog.info? 57).map (·.size) = some 256 := by kernel_rfl
/-- What strings.LastIndexAny of the signs leaves. -/
def LiaP (s : ByteArray) (k : Int) : Prop := (-1 ≤ k ∧ k < s.size) ∧ ((∀ b ∈ s.toList, b.toNat < 128) → (k = -1 ∧ ∀ b ∈ s.toList, SG.contains b = false) ∨ ∃ i : Nat, k = (i : Int) ∧ (∃ b, s.toList[i]? = some b ∧ SG.contains b = true) ∧ ∀ (j : Nat) (b : UInt8), i < j → s.toList[j]? = some b → SG.contains b = false)
set_option maxHeartbeats 8000000 in
theorem lia_long (s : ByteArray) (w : World) (h8 : 8 < s.size) (hs : s.size ≤ 9223372036854775807) :
    Calls Tryd.prog 34 #[.string s, .string ⟨#[43, 45]⟩] w fun e w' => ∃ k : Int, e = .returned (.int .i64 k) ∧ LiaP s k ∧ Below w.heap.size w w' := by
  have hM := Tryd.strings_makeASCIISet zero57 ⟨#[43, 45]⟩ w (by decide) (by
    intro j b hj
    match j, hj with
    | 0, hj => cases hj; decide
    | 1, hj => cases hj; decide
    | j + 2, hj => simp at hj)
  have h8z : decide ((8 : Int) < (s.size : Int)) = true := decide_eq_true (by omega)
  have hz57 : Tryd.zeroCells57 = (Array.replicate 256 (.bool false) : Array Value) := by kernel_rfl
  have hsc : (storeCells ⟨w.heap.size + 1, 0, none⟩ (Lib.setCells SG).toList 0).run Tryd.prog ((w.alloc (.cells (Lib.setCells SG) 57)).alloc (.cells Tryd.zeroCells57 57)) = .ok () ((w.alloc (.cells (Lib.setCells SG) 57)).alloc (.cells (Lib.setCells SG) 57)) := by
    rw [hz57]
    have := run_storeCells_new (P := Tryd.prog) (w.alloc (.cells (Lib.setCells SG) 57)) 57 (Array.replicate 256 (.bool false)) (Lib.setCells SG) (by rw [Lib.setCells_size]; exact info57) (by rw [Lib.setCells_size, Array.size_replicate]) (Lib.setCells_one _)
    simpa using this
  have hsz := Lib.setCells_size SG
  have HC := Lib.hid (show ∀ x : UInt8, ((w.alloc (.cells (Lib.setCells SG) 57)).alloc (.cells (Lib.setCells SG) 57)).cell? ⟨w.heap.size + 1, x.toNat, none⟩ = some (.bool (SG.contains x)) from fun x => by
    rw [World.cell?_alloc_at _ _ _ _ (by simp), Lib.setCells_at])
  have HM := Lib.hid (show Calls Tryd.prog 42 #[.string ⟨#[43, 45]⟩] w (fun e w' => e = .returned (.tuple #[.agg (Lib.setCells SG), .bool true]) ∧ w.alloc (.cells (Lib.setCells SG) 57) = w') from hM.mono fun e w' h => ⟨h.1, h.2.symm⟩)
  clear hM
  clear hz57
  generalize Lib.setCells SG = CS at *
  go_enter Tryd.func34, Tryd.ntmps34
  go_wp2_with (first
    | (go_at_call 41; refine (Tryd.strings_shouldUseASCIISet _ _).mono ?_; rintro e w' ⟨rfl, hw⟩; rw [hw, h8z])
    | (go_at_call 42; refine Calls.mono HM.out ?_; rintro e w' ⟨rfl, rfl⟩))
  obtain ⟨w2, hw2⟩ : ∃ w2, w2 = (w.alloc (.cells CS 57)).alloc (.cells CS 57) := ⟨_, rfl⟩
  have HB := Lib.hid (show Below w.heap.size w w2 by rw [hw2]; exact ((Below.refl _ _).alloc (Nat.le_refl _) _).alloc (by rw [alloc_sz]; omega) _)
  (try simp only [zero57, Result.andThen])
  go_wp2_with fail
  rw [← hw2] at HC ⊢
  clear hw2 HM hsc
  go_loopg [8] s.size (fun g s8 wx => ∃ z : Int, s8 = .int .i64 z ∧ z + 1 = (g : Int) ∧ g ≤ s.size ∧ wx = w2 ∧ RowKit.Hid (∀ (j : Nat) (b : UInt8), g ≤ j → s.toList[j]? = some b → SG.contains b = false))
  case atStart => exact ⟨_, rfl, by omega, Nat.le_refl _, rfl, Lib.hid (fun j b hj hb => by have := (List.getElem?_eq_some_iff.1 hb).1; rw [toList_len] at this; omega)⟩
  case round =>
    obtain ⟨z, rfl, hz, hgs, rfl, HN⟩ := hrel
    cases gk with
    | zero =>
      obtain rfl : z = -1 := by omega
      go_wp2
      go_ret
      exact ⟨-1, rfl, ⟨⟨by omega, by omega⟩, fun _ => .inl ⟨rfl, fun b hb => by obtain ⟨j, hj⟩ := List.getElem?_of_mem hb; exact HN.out j b (Nat.zero_le _) hj⟩⟩, HB.out⟩
    | succ g =>
      obtain rfl : z = (g : Int) := by omega
      have hi : g < s.size := by omega
      have hiz : (g : Int) < (s.size : Int) := by omega
      obtain ⟨x, hx⟩ : ∃ x : UInt8, s[g]'hi = x := ⟨_, rfl⟩
      have HX := Lib.hid (show s.toList[g]? = some x by rw [ba_get hi, hx])
      have hcx := HC.out x
      have HK := Lib.hid (fun (v : Bool) (hc : wr.cell? ⟨w.heap.size + 1, x.toNat, none⟩ = some (.bool v)) => (Tryd.asciiSet_contains (w.heap.size + 1) x v wr hc).mono (R' := fun e w' => e = .returned (.bool v) ∧ wr = w') (fun e w' h => ⟨h.1, h.2.symm⟩))
      cases hin : SG.contains x with
      | true =>
        rw [hin] at hcx
        have HK2 := Lib.hid (HK.out true hcx)
        have HIN := Lib.hid hin
        clear HK hcx hin
        go_wp2_with (go_at_call 43; refine Calls.mono HK2.out ?_; rintro e w' ⟨rfl, rfl⟩)
        go_ret
        exact ⟨(g : Int), rfl, ⟨⟨by omega, by omega⟩, fun _ => .inr ⟨g, rfl, ⟨x, HX.out, HIN.out⟩, fun j b hj hb => HN.out j b (by omega) hb⟩⟩, HB.out⟩
      | false =>
        rw [hin] at hcx
        have HK2 := Lib.hid (HK.out false hcx)
        have HN2 := Lib.hid (show ∀ (j : Nat) (b : UInt8), g ≤ j → s.toList[j]? = some b → SG.contains b = false from fun j b hj hb => by
          rcases Nat.lt_or_ge g j with h | h
          · exact HN.out j b h hb
          · obtain rfl : j = g := by omega
            rw [HX.out] at hb; cases hb; exact hin)
        clear HK hcx hin
        go_wp2_with (go_at_call 43; refine Calls.mono HK2.out ?_; rintro e w' ⟨rfl, rfl⟩)
        go_roundg g
        case measure => omega
        case rel => exact ⟨_, rfl, by omega, by omega, rfl, HN2⟩
end Go.Proofs.YthncmfchphigdaaDoor.T
