import Derived.Deep.DeepCutAuto
import Derived.Laws.OwnMore
import Derived.OwnWalk
import Derived.Lib.AppendStr
import Derived.Lib.SliceRun
import Derived.Lib.SmallJoins
import Derived.IntWalk
import Derived.Lib.ItoaLen
import Derived.WalkMore
import Derived.Lib.AtoiAllCases
import Derived.Lib.OthersKept
import Derived.Laws.Runes
import Derived.Deep.LoopGhost
import Derived.Deep.RegionLaw
import Derived.Deep.AppendLies
import Derived.Test.YthncmfchphigdaaDoorProg
import Derived.Test.YthncmfchphigdaaDoorMem
import Derived.Test.YthncmfchphigdaaDoorBlk
import Derived.Test.YthncmfchphigdaaDoorLa
import Derived.Test.YthncmfchphigdaaDoorYf
import Derived.WalkKit
import Derived.Outline
import Derived.WalkLawsBesides
import Derived.Deep.QuietTactic
import Derived.BigQuiet
import Derived.Lib.Hide
import Derived.Handy
import Derived.Deep.RegionHeld3
import Derived.Deep.DrawnRows
import Derived.KernelRfl
import Derived.Great.Walk
import Derived.Test.YthncmfchphigdaaDoorOwn
namespace Go.Proofs.YthncmfchphigdaaDoor.T
open Go Go.RowKit Go.Sort Mem Own
set_option maxRecDepth 100000
set_option maxHeartbeats 1000000
set_option linter.unusedVariables false
set_option linter.unusedSimpArgs false

theorem irune_high (r : Int) (w : World) (h1 : 128 ≤ r) (h2 : r ≤ 2147483647) :
    Calls Tryd.prog 40 #[.string ⟨#[43, 45]⟩, .int .i32 r] w fun e w' => e = .returned (.int .i64 (-1)) ∧ Below w.heap.size w w' := by
  by_cases hr : r = 65533
  · subst hr
    have n0 := fun ty => run_next_ascii (P := Tryd.prog) w ⟨#[43, 45]⟩ 0 ty (by decide) (by decide)
    have n1 := fun ty => run_next_ascii (P := Tryd.prog) w ⟨#[43, 45]⟩ 1 ty (by decide) (by decide)
    have n2 := fun ty => run_next_end (P := Tryd.prog) w ⟨#[43, 45]⟩ 2 ty (by decide)
    go_enter Tryd.func40, Tryd.ntmps40
    go_wp2_with fail
    go_loopg [5, 6] 2 (fun g _ _ wx => ∃ i : Nat, i + g = 2 ∧ wx = w.iter ⟨#[43, 45]⟩ i)
    case atStart => exact ⟨0, rfl, rfl⟩
    case round =>
      obtain ⟨i, hig, rfl⟩ := hrel
      rcases (show (gk = 0 ∧ i = 2) ∨ (gk = 1 ∧ i = 1) ∨ (gk = 2 ∧ i = 0) by omega) with ⟨rfl, rfl⟩ | ⟨rfl, rfl⟩ | ⟨rfl, rfl⟩
      · go_wp2
        go_ret
        exact ⟨rfl, (Below.refl _ _).alloc (Nat.le_refl _) _⟩
      · go_wp2
        go_roundg 0
        case measure => omega
        case rel => exact ⟨2, rfl, rfl⟩
      · go_wp2
        go_roundg 1
        case measure => omega
        case rel => exact ⟨1, rfl, rfl⟩
  · have hrb : (r == 65533) = false := by simpa using hr
    cases hv : Lib.validRune r with
    | false =>
      go_enter Tryd.func40, Tryd.ntmps40
      go_wp2_with (go_at_call 52; refine (Tryd.utf8_ValidRune r _).mono ?_; rintro e w1 ⟨rfl, rfl⟩; rw [hv])
      go_ret
      exact ⟨rfl, Below.refl _ _⟩
    | true =>
      have hV : Utf8.valid r = true := by
        have hp : (0 ≤ r ∧ r < 0xD800) ∨ (0xDFFF < r ∧ r ≤ 0x10FFFF) := of_decide_eq_true hv
        simp only [Utf8.valid, Bool.or_eq_true, Bool.and_eq_true, decide_eq_true_eq]
        omega
      obtain ⟨e1, e2, e3⟩ := encode_facts r hV h1
      have HL := Lib.hid e3
      clear hV e3
      obtain ⟨s, hs⟩ : ∃ s, Utf8.encode r = s := ⟨_, rfl⟩
      have HS := Lib.hid hs
      rw [hs] at e1 e2 HL
      clear hs
      have hsr : ∀ wx : World, (convert 21 9 (.int .i32 r)).run Tryd.prog wx = .ok (.string s) wx := fun wx => by rw [← HS.out]; exact run_convert_int_string wx 21 9 .i32 r rfl Tryd.underlying9
      by_cases h2s : s.size = 2
      · have hl1 : s.size - 1 < s.size := by omega
        have H1 := Lib.hid (HL.out hl1)
        have hlt1 : 1 < s.size := by omega
        obtain ⟨c, hc⟩ : ∃ c : UInt8, s[1]'hlt1 = c := ⟨_, rfl⟩
        have hc128 : 128 ≤ c.toNat := by rw [← hc]; have := H1.out; simpa [h2s] using this
        have hcn : ((((⟨#[43, 45]⟩ : ByteArray)[1]'(by decide)).toNat : Int) != (c.toNat : Int)) = true := by
          show ((45 : Int) != (c.toNat : Int)) = true
          simp; omega
        have HIB := Lib.hid (fun (wx : World) => (Tryd.strings_IndexByte ByteArray.empty (c.toNat : Int) wx).mono (R' := fun e w' => e = .returned (.int .i64 (-1)) ∧ wx = w') (fun e w' h => ⟨h.1, h.2.symm⟩))
        have hsi : (s.size : Int) = 2 := by omega
        have hlti : (1 : Int) < (s.size : Int) := by omega
        clear h2s H1 HL e1 e2
        go_enter Tryd.func40, Tryd.ntmps40
        go_wp2_with (go_at_call 52; refine (Tryd.utf8_ValidRune r _).mono ?_; rintro e w1 ⟨rfl, rfl⟩; rw [hv])
        go_step3
        go_wp2_with fail
        refine wp_loop_rounds 1 ?_
        rw [rounds_succ]
        go_wp2_with fail
        go_step3
        go_wp2_with fail
        go_quiet (fail)
        go_wp2_with fail
        have hwr : IntKind.i64.wrap ((1 : Int) + 1) = 2 := by decide
        go_region_with ((go_at_call 51; refine (HIB.out _).mono ?_; rintro e w2 ⟨rfl, rfl⟩))
        all_goals
          go_wp2_with fail
          rw [Exit.noGoto_ret]
          go_wp2_with fail
          (try rw [Exit.noGoto_ret])
          go_ret
          exact ⟨rfl, Go.below_drewN (Below.refl _ _) _⟩
      · have h3s : (3 : Int) ≤ (s.size : Int) := by omega
        go_enter Tryd.func40, Tryd.ntmps40
        go_wp2_with (go_at_call 52; refine (Tryd.utf8_ValidRune r _).mono ?_; rintro e w1 ⟨rfl, rfl⟩; rw [hv])
        go_step3
        go_wp2_with fail
        refine wp_loop_rounds 1 ?_
        rw [rounds_succ]
        go_wp2_with fail
        rw [Exit.noGoto_ret]
        go_ret
        exact ⟨rfl, Below.refl _ _⟩
end Go.Proofs.YthncmfchphigdaaDoor.T
