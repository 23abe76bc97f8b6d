import Derived.Deep.DeepCutAuto
import Derived.Laws.OwnMore
import Derived.OwnWalk
import Derived.Lib.AppendStr
import Derived.Lib.SliceRun
import Derived.Lib.SmallJoins
import Derived.IntWalk
import Derived.Lib.ItoaLen
import Derived.WalkMore
import Derived.Lib.AtoiAllCases
import Derived.Lib.OthersKept
import Derived.Laws.Runes
import Derived.Deep.LoopGhost
import Derived.Deep.RegionLaw
import Derived.Deep.AppendLies
import Derived.Test.YteghfinngilfgaaDoorProg
import Derived.Test.YteghfinngilfgaaDoorMem
import Derived.Test.YteghfinngilfgaaDoorYk
import Derived.WalkKit
import Derived.Outline
import Derived.WalkLawsBesides
import Derived.Deep.QuietTactic
import Derived.BigQuiet
import Derived.Lib.Hide
import Derived.Handy
import Derived.Deep.RegionHeld3
import Derived.Deep.DrawnRows
import Derived.KernelRfl
import Derived.Great.Walk
import Derived.Test.YteghfinngilfgaaDoorOwn
namespace Go.Proofs.YteghfinngilfgaaDoor.T
open Go Go.RowKit Go.Sort Mem Own
set_option maxRecDepth 100000
set_option maxHeartbeats 1000000
set_option linter.unusedVariables false
set_option linter.unusedSimpArgs false

theorem conv1 (w : World) (x : UInt8) (z : Int) (h : z = x.toNat) : (convert 42 9 (.slice (some ⟨w.heap.size, 0, none⟩) 1 1)).run Tryd.prog (w.alloc (.cells #[.int .u8 z] 5)) = .ok (.string ⟨#[x]⟩) (w.alloc (.cells #[.int .u8 z] 5)) := by
  subst h
  refine run_convert_bytes_back (P := Tryd.prog) (w.alloc (.cells #[.int .u8 (x.toNat : Int)] 5)) 42 9 5 ⟨w.heap.size, 0, none⟩ 1 [x] Tryd.underlying42 Tryd.underlying5 Tryd.underlying9 fun j hj => ?_
  have hj0 : j = 0 := by simp at hj; omega
  subst hj0
  exact of_blk (heap_alloc_new w (.cells #[.int .u8 (x.toNat : Int)] 5)) 0
theorem below_is : ∀ (u : Nat) (w : World), u ≤ 9223372036854775808 → Calls Tryd.prog 40 #[.int .i64 (-(u : Int))] w fun e w' => e = .returned (.string ⟨(Lib.decDigits u).toArray⟩) ∧ Below w.heap.size w w' := by
  intro u
  induction u using Nat.strongRecOn with
  | ind u ih =>
    intro w hu
    have hz : (48 : Int) + (u : Int) % 10 = ((UInt8.ofNat (48 + u % 10)).toNat : Int) := by rw [UInt8.toNat_ofNat']; omega
    have kc := conv1 w (UInt8.ofNat (48 + u % 10)) _ hz
    have HU := Lib.hid (show Lib.decDigits u = if u < 10 then [UInt8.ofNat (48 + u % 10)] else Lib.decDigits (u / 10) ++ [UInt8.ofNat (48 + u % 10)] by
      rw [Lib.decDigits]
      split
      · rename_i h; rw [Nat.mod_eq_of_lt h]
      · rfl)
    by_cases h10 : 10 ≤ u
    · have HQ := Lib.hid (show (u : Int) / 10 = ((u / 10 : Nat) : Int) by omega)
      have HIH := Lib.hid (fun (wx : World) => ih (u / 10) (by omega) wx (by omega))
      obtain ⟨t, ht⟩ : ∃ t : ByteArray, t = ⟨(Lib.decDigits (u / 10)).toArray⟩ := ⟨_, rfl⟩
      have htl : t.size ≤ 40 := by
        rw [ht]
        have h1 := Lib.itoa_length_le ((u / 10 : Nat) : Int) (by omega) (by omega)
        rw [Lib.itoa_nonneg] at h1
        show (Lib.decDigits (u / 10)).toArray.size ≤ 40
        simp; omega
      have HT2 := Lib.hid ht
      have HE := Lib.hid (show t ++ (⟨#[UInt8.ofNat (48 + u % 10)]⟩ : ByteArray) = ⟨(Lib.decDigits u).toArray⟩ by
        rw [HU.out, if_neg (by omega), ht]
        apply ByteArray.ext
        rw [ByteArray.data_append]
        apply Array.ext'
        simp)
      obtain ⟨s1, hs1⟩ : ∃ s1 : ByteArray, s1 = ⟨#[UInt8.ofNat (48 + u % 10)]⟩ := ⟨_, rfl⟩
      have hz1 : s1.size = 1 := by rw [hs1]; rfl
      rw [← hs1] at kc HE
      have hov : ¬ (9223372036854775807 < t.size + s1.size) := by omega
      clear ih hz hs1 ht htl
      go_enter Tryd.func40, Tryd.ntmps40
      go_wp2_with (go_at_call 40; rw [HQ.out]; refine Calls.mono (HIH.out _) ?_; rintro e w1 ⟨rfl, hb1⟩; rw [← HT2.out])
      go_ret
      exact ⟨by rw [← HE.out]; rfl, (by ((repeat (first | exact Below.refl _ _ | (refine Below.drew ?_) | (refine Go.below_drewN ?_ _) | (refine Below.alloc ?_ (by first | (simp; done) | omega | (simp; omega)) _) | (refine Below.setCell ?_ (by first | (simp; done) | omega | (simp; omega)) _) | (refine Below.trans ?_ (Below.mono (by assumption) (by first | (simp; done) | omega | (simp; omega)))))); done))⟩
    · have HE := Lib.hid (show (⟨#[UInt8.ofNat (48 + u % 10)]⟩ : ByteArray) = ⟨(Lib.decDigits u).toArray⟩ by rw [HU.out, if_pos (by omega)])
      obtain ⟨s1, hs1⟩ : ∃ s1 : ByteArray, s1 = ⟨#[UInt8.ofNat (48 + u % 10)]⟩ := ⟨_, rfl⟩
      rw [← hs1] at kc HE
      have hlt : ¬ (-(u : Int) ≤ -10) := by omega
      clear ih hz hs1 h10
      go_enter Tryd.func40, Tryd.ntmps40
      go_wp2
      go_ret
      exact ⟨by rw [← HE.out]; rfl, (by ((repeat (first | exact Below.refl _ _ | (refine Below.drew ?_) | (refine Go.below_drewN ?_ _) | (refine Below.alloc ?_ (by first | (simp; done) | omega | (simp; omega)) _) | (refine Below.setCell ?_ (by first | (simp; done) | omega | (simp; omega)) _) | (refine Below.trans ?_ (Below.mono (by assumption) (by first | (simp; done) | omega | (simp; omega)))))); done))⟩
/-- ref04.Digits -/
theorem digits_is (n : Int) (w : World) (h0 : -9223372036854775808 ≤ n) (h1 : n ≤ 9223372036854775807) : Calls Tryd.prog 32 #[.int .i64 n] w fun e w' => e = .returned (.string (dec n)) ∧ Below w.heap.size w w' := by
  by_cases hn : n < 0
  · obtain ⟨u, rfl⟩ : ∃ u : Nat, n = -(u : Int) := ⟨n.natAbs, by omega⟩
    have HB := Lib.hid (fun (wx : World) => below_is u wx (by omega))
    obtain ⟨t, ht⟩ : ∃ t : ByteArray, t = ⟨(Lib.decDigits u).toArray⟩ := ⟨_, rfl⟩
    have HT2 := Lib.hid ht
    have hd := Lib.itoa_neg u (by omega)
    have htl : t.size ≤ 40 := by
      rw [ht]
      have h2 := Lib.itoa_length_le (-(u : Int)) (by omega) (by omega)
      rw [hd] at h2
      show (Lib.decDigits u).toArray.size ≤ 40
      simp at h2 ⊢; omega
    have HE := Lib.hid (show (⟨#[45]⟩ : ByteArray) ++ t = dec (-(u : Int)) by
      unfold dec
      rw [hd, ht]
      apply ByteArray.ext
      rw [ByteArray.data_append]
      apply Array.ext'
      simp)
    have hov : ¬ (9223372036854775807 < 1 + t.size) := by omega
    clear ht htl hd
    go_enter Tryd.func32, Tryd.ntmps32
    go_wp2_with (go_at_call 40; refine Calls.mono (HB.out _) ?_; rintro e w1 ⟨rfl, hb1⟩; rw [← HT2.out])
    go_ret
    exact ⟨by rw [← HE.out]; rfl, (by ((repeat (first | exact Below.refl _ _ | (refine Below.drew ?_) | (refine Go.below_drewN ?_ _) | (refine Below.alloc ?_ (by first | (simp; done) | omega | (simp; omega)) _) | (refine Below.setCell ?_ (by first | (simp; done) | omega | (simp; omega)) _) | (refine Below.trans ?_ (Below.mono (by assumption) (by first | (simp; done) | omega | (simp; omega)))))); done))⟩
  · obtain ⟨u, rfl⟩ : ∃ u : Nat, n = (u : Int) := ⟨n.toNat, by omega⟩
    have HB := Lib.hid (fun (wx : World) => below_is u wx (by omega))
    have HE := Lib.hid (show (⟨(Lib.decDigits u).toArray⟩ : ByteArray) = dec (u : Int) by unfold dec; rw [Lib.itoa_nonneg])
    obtain ⟨t, ht⟩ : ∃ t : ByteArray, t = ⟨(Lib.decDigits u).toArray⟩ := ⟨_, rfl⟩
    have HT2 := Lib.hid ht
    rw [← ht] at HE
    clear ht hn
    go_enter Tryd.func32, Tryd.ntmps32
    go_wp2_with (go_at_call 40; refine Calls.mono (HB.out _) ?_; rintro e w1 ⟨rfl, hb1⟩; rw [← HT2.out])
    go_ret
    exact ⟨by rw [← HE.out]; rfl, (by ((repeat (first | exact Below.refl _ _ | (refine Below.drew ?_) | (refine Go.below_drewN ?_ _) | (refine Below.alloc ?_ (by first | (simp; done) | omega | (simp; omega)) _) | (refine Below.setCell ?_ (by first | (simp; done) | omega | (simp; omega)) _) | (refine Below.trans ?_ (Below.mono (by assumption) (by first | (simp; done) | omega | (simp; omega)))))); done))⟩
end Go.Proofs.YteghfinngilfgaaDoor.T
