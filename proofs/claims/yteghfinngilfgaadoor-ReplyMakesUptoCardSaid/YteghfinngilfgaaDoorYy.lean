import Derived.Deep.DeepCutAuto
import Derived.Laws.OwnMore
import Derived.OwnWalk
import Derived.Lib.AppendStr
import Derived.Lib.SliceRun
import Derived.Lib.SmallJoins
import Derived.IntWalk
import Derived.Lib.ItoaLen
import Derived.WalkMore
import Derived.Lib.AtoiAllCases
import Derived.Lib.OthersKept
import Derived.Laws.Runes
import Derived.Deep.LoopGhost
import Derived.Deep.RegionLaw
import Derived.Deep.AppendLies
import Derived.Test.YteghfinngilfgaaDoorProg
import Derived.Test.YteghfinngilfgaaDoorMem
import Derived.Test.YteghfinngilfgaaDoorYx
import Derived.WalkKit
import Derived.Outline
import Derived.WalkLawsBesides
import Derived.Deep.QuietTactic
import Derived.BigQuiet
import Derived.Lib.Hide
import Derived.Handy
import Derived.Deep.RegionHeld3
import Derived.Deep.DrawnRows
import Derived.KernelRfl
import Derived.Great.Walk
import Derived.Test.YteghfinngilfgaaDoorOwn
namespace Go.Proofs.YteghfinngilfgaaDoor.T
open Go Go.RowKit Go.Sort Mem Own
set_option maxRecDepth 100000
set_option maxHeartbeats 1000000
set_option linter.unusedVariables false
set_option linter.unusedSimpArgs false

theorem rtext_is (t : ByteArray) (w : World) : Calls Tryd.prog 18 #[.string t] w fun e w' => e = .returned (tV 4 0 t none 0 0) ∧ Below w.heap.size w w' := by
  have HN := Lib.hid (new1 w #[.int .i64 0, .int .i64 0, .string ⟨#[]⟩, .slice none 0 0] 24)
  go_enter Tryd.func18, Tryd.ntmps18
  go_upto_region 1 with fail
  obtain ⟨w1, hw1⟩ : ∃ w1, w1 = w.alloc (.cells #[.int .i64 0, .int .i64 0, .string ⟨#[]⟩, .slice none 0 0] 24) := ⟨_, rfl⟩
  rw [← hw1] at HN ⊢
  clear hw1
  obtain ⟨x0, x1, x2, x3⟩ := cells4 HN.out.1
  obtain ⟨f0, f1, f2, f3⟩ := frees4 HN.out.1
  go_wp2
  refine ret_one rfl rfl (sets4 _ _ _ _ HN.out.1) ?_
  exact ⟨rfl, below_sets4 HN.out.2 (Nat.le_refl _)⟩
/-- ref04.plain -/
theorem rplain_is (t : ByteArray) (w : World) (ht : t.size ≤ 9223372036854775806) : Calls Tryd.prog 31 #[.string t] w fun e w' => e = .returned (.bool (plainB t)) ∧ w' = w := by
  rw [plain_has]
  have HC := Lib.hid (fun (h : ∀ j (hj : j < t.size), ¬ t[j]'hj = 13 ∧ ¬ t[j]'hj = 10) => (show hasCR t = false by
    unfold hasCR; rw [List.any_eq_false]; intro b hb
    obtain ⟨j, hj, rfl⟩ := List.getElem_of_mem hb
    have hj' : j < t.size := by rw [← toList_len]; exact hj
    have e := ba_get hj'
    rw [List.getElem?_eq_getElem hj] at e
    have e' := Option.some.inj e
    rw [e']; simp [h j hj']))
  have HB := Lib.hid (fun (j : Nat) (hj : j < t.size) (h : t[j]'hj = 13 ∨ t[j]'hj = 10) => (show hasCR t = true by
    unfold hasCR; rw [List.any_eq_true]
    exact ⟨t[j]'hj, List.mem_of_getElem? (ba_get hj), by simpa using h⟩))
  generalize hasCR t = cr at HC HB ⊢
  go_enter Tryd.func31, Tryd.ntmps31
  go_wp2_with fail
  go_loopw [3] (fun s3 wr => ∃ i : Nat, i ≤ t.size ∧ s3 = .int .i64 i ∧ RowKit.Hid (∀ j (hj : j < t.size), j < i → ¬ t[j]'hj = 13 ∧ ¬ t[j]'hj = 10) ∧ wr = w) (fun s3 _ => t.size - (intOf s3).toNat)
  case atStart => exact ⟨0, Nat.zero_le _, rfl, Lib.hid (fun j _ h => by omega), rfl⟩
  case round =>
    obtain ⟨i, hi, rfl, HP, rfl⟩ := hrel
    by_cases hlt : i < t.size
    · have HBi := Lib.hid (HB.out i hlt)
      have HPi := Lib.hid (fun (h : ¬ t[i]'hlt = 13 ∧ ¬ t[i]'hlt = 10) => (show ∀ j (hj : j < t.size), j < i + 1 → ¬ t[j]'hj = 13 ∧ ¬ t[j]'hj = 10 by
        intro j hj h1
        rcases Nat.lt_succ_iff_lt_or_eq.1 h1 with h2 | rfl
        · exact HP.out j hj h2
        · exact h))
      obtain ⟨b, hb⟩ : ∃ b, b = t[i]'hlt := ⟨_, rfl⟩
      rw [← hb] at HBi HPi
      have hb' := hb.symm
      have hti : i + 1 ≤ 9223372036854775806 := by omega
      have e1 : decide ((i : Int) < (t.size : Int)) = true := by simpa using hlt
      have hg : t[i]'hlt = b := hb.symm
      clear hb hb'
      by_cases b13 : b = 13
      · subst b13
        have e := HBi.out (.inl rfl)
        subst e
        go_wp2_with fail
        go_ret
        exact ⟨by simp, rfl⟩
      by_cases b10 : b = 10
      · subst b10
        have e := HBi.out (.inr rfl)
        subst e
        go_wp2_with fail
        go_ret
        exact ⟨by simp, rfl⟩
      have HP1 := Lib.hid (HPi.out ⟨b13, b10⟩)
      have c1 : decide (b = 13) = false := by simpa using b13
      have c2 : decide (b = 10) = false := by simpa using b10
      have n13 : ¬ b.toNat = 13 := fun h => b13 (UInt8.toNat_inj.1 (by rw [h]; rfl))
      have n10 : ¬ b.toNat = 10 := fun h => b10 (UInt8.toNat_inj.1 (by rw [h]; rfl))
      have c5 : ((b.toNat : Int) == 13) = false := by simp; omega
      have c6 : ((b.toNat : Int) == 10) = false := by simp; omega
      clear c1 c2
      go_wp2_with fail
      exact ⟨⟨i + 1, hlt, rfl, HP1, trivial⟩, by simp [intOf]; omega⟩
    · have e : i = t.size := by omega
      have e0 := HC.out (fun j hj => HP.out j hj (by omega))
      subst e0
      subst e
      go_wp2_with fail
      go_ret
      exact ⟨by simp; omega, rfl⟩
end Go.Proofs.YteghfinngilfgaaDoor.T
