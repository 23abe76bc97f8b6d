import Derived.Deep.DeepCutAuto
import Derived.Laws.OwnMore
import Derived.OwnWalk
import Derived.Lib.AppendStr
import Derived.Lib.SliceRun
import Derived.Lib.SmallJoins
import Derived.IntWalk
import Derived.WalkMore
import Derived.Lib.OthersKept
import Derived.Deep.LoopGhost
import Derived.Deep.RegionLaw
import Derived.Deep.AppendLies
import Derived.Test.YtmflalnajinejaaProg
import Derived.Test.YtmflalnajinejaaMem
import Derived.Test.YtmflalnajinejaaBlk
import Derived.Test.YtmflalnajinejaaAp
import Derived.Test.YtmflalnajinejaaKa
import Derived.Sort.EncStr
import Derived.Shelf.SlSortCmp.WholeK
import Derived.WalkKit
import Derived.Outline
import Derived.WalkLawsBesides
import Derived.Deep.QuietTactic
import Derived.BigQuiet
import Derived.Lib.Hide
import Derived.Handy
import Derived.Deep.RegionHeld3
import Derived.Deep.DrawnRows
import Derived.KernelRfl
import Derived.Great.Walk
import Derived.Test.YtmflalnajinejaaOwn
namespace Go.Proofs.Ytmflalnajinejaa.T
open Go Go.RowKit Go.Sort Mem Own
set_option maxRecDepth 100000
set_option maxHeartbeats 1000000
set_option linter.unusedVariables false
set_option linter.unusedSimpArgs false

theorem nan_is (a : Int) (w : World) : Calls Try.prog 43 #[.int .i64 a] w fun e w' => e = .returned (.bool false) ∧ w = w' := by
  go_enter Try.func43, Try.ntmps43
  go_wp2
  go_ret
  exact ⟨by simp, rfl⟩
/-- cmp.Compare -/
def cmpI (a b : Int) : Int := if a < b then -1 else if b < a then 1 else 0
theorem cmp_is (a b : Int) (w : World) : Calls Try.prog 38 #[.int .i64 a, .int .i64 b] w fun e w' => e = .returned (.int .i64 (cmpI a b)) ∧ w = w' := by
  unfold cmpI
  by_cases h1 : a < b
  · rw [if_pos h1]
    go_enter Try.func38, Try.ntmps38
    go_wp2_with (go_at_call 43; refine (nan_is _ _).mono ?_; rintro e w1 ⟨rfl, rfl⟩)
    go_ret
    exact ⟨rfl, rfl⟩
  by_cases h2 : b < a
  · rw [if_neg h1, if_pos h2]
    go_enter Try.func38, Try.ntmps38
    go_wp2_with (go_at_call 43; refine (nan_is _ _).mono ?_; rintro e w1 ⟨rfl, rfl⟩)
    go_ret
    exact ⟨rfl, rfl⟩
  rw [if_neg h1, if_neg h2]
  go_enter Try.func38, Try.ntmps38
  go_wp2_with (go_at_call 43; refine (nan_is _ _).mono ?_; rintro e w1 ⟨rfl, rfl⟩)
  go_ret
  exact ⟨rfl, rfl⟩
/-- slices.Compare of two ends. -/
def cfE (x y : En) : Int := if cmpI x.1 y.1 ≠ 0 then cmpI x.1 y.1 else cmpI x.2 y.2
theorem compare_is (x y : En) (b1 b2 : Nat) (w : World) (h1 : w.heap[b1]? = some (.cells #[.int .i64 x.1, .int .i64 x.2] 40 (0, 0))) (h2 : w.heap[b2]? = some (.cells #[.int .i64 y.1, .int .i64 y.2] 40 (0, 0))) :
    Calls Try.prog 31 #[.slice (some ⟨b1, 0, none⟩) 2 2, .slice (some ⟨b2, 0, none⟩) 2 2] w fun e w' => e = .returned (.int .i64 (cfE x y)) ∧ w = w' := by
  obtain ⟨x1, x2⟩ := x
  obtain ⟨y1, y2⟩ := y
  obtain ⟨p0, p1⟩ := cells2 h1
  obtain ⟨q0, q1⟩ := cells2 h2
  have HC1 := Lib.hid (cmp_is x1 y1)
  have HC2 := Lib.hid (cmp_is x2 y2)
  dsimp only at p0 p1 q0 q1
  unfold cfE
  dsimp only
  generalize cmpI x1 y1 = c1 at HC1 ⊢
  generalize cmpI x2 y2 = c2 at HC2 ⊢
  clear h1 h2
  obtain ⟨r, hr⟩ : ∃ r, r = if c1 ≠ 0 then c1 else c2 := ⟨_, rfl⟩
  rw [← hr]
  have HR1 := Lib.hid (show c1 ≠ 0 → r = c1 from fun h => by rw [hr, if_pos h])
  have HR2 := Lib.hid (show c1 = 0 → r = c2 from fun h => by rw [hr, if_neg (by simp [h])])
  clear hr
  go_enter Try.func31, Try.ntmps31
  go_wp2_with fail
  go_loop [11] (fun x => ∃ i : Nat, i ≤ 2 ∧ x = .int .i64 i ∧ RowKit.Hid (0 < i → c1 = 0) ∧ RowKit.Hid (1 < i → c2 = 0)) (fun x => 2 - (intOf x).toNat)
  case atStart => exact ⟨0, Nat.zero_le _, rfl, Lib.hid (fun h => by omega), Lib.hid (fun h => by omega)⟩
  case round =>
    obtain ⟨i, hi, rfl, H1, H2⟩ := hrel
    rcases (show i = 0 ∨ i = 1 ∨ i = 2 by omega) with rfl | rfl | rfl
    · by_cases hc : c1 = 0
      · have HC := Lib.hid hc
        have hne : (c1 != 0) = false := by simp [hc]
        clear hc
        go_wp2_with (go_at_call 38; refine (HC1.out _).mono ?_; rintro e w1 ⟨rfl, rfl⟩)
        exact ⟨⟨1, by omega, rfl, Lib.hid (fun _ => HC.out), Lib.hid (fun h => by omega)⟩, by simp [intOf]⟩
      · have hne : (c1 != 0) = true := by simp [hc]
        go_wp2_with (go_at_call 38; refine (HC1.out _).mono ?_; rintro e w1 ⟨rfl, rfl⟩)
        go_ret
        exact ⟨by rw [HR1.out hc]; rfl, rfl⟩
    · have hc1 := H1.out (by omega)
      by_cases hc : c2 = 0
      · have HC := Lib.hid hc
        have hne : (c2 != 0) = false := by simp [hc]
        clear hc
        go_wp2_with (go_at_call 38; refine (HC2.out _).mono ?_; rintro e w1 ⟨rfl, rfl⟩)
        exact ⟨⟨2, by omega, rfl, H1.out (by omega) |> fun h => Lib.hid (fun _ => h), Lib.hid (fun _ => HC.out)⟩, by simp [intOf]⟩
      · have hne : (c2 != 0) = true := by simp [hc]
        have HC := Lib.hid hc1
        clear hc1
        go_wp2_with (go_at_call 38; refine (HC2.out _).mono ?_; rintro e w1 ⟨rfl, rfl⟩)
        go_ret
        exact ⟨by rw [HR2.out HC.out]; rfl, rfl⟩
    · have HC := Lib.hid (H1.out (by omega))
      have HD := Lib.hid (H2.out (by omega))
      go_wp2
      go_ret
      exact ⟨by rw [HR2.out HC.out, HD.out]; rfl, rfl⟩
/-- The order of Pairs. -/
theorem pcmp_is (x y : En) (W : World) : Calls Try.prog 30 #[.agg #[.int .i64 x.1, .int .i64 x.2], .agg #[.int .i64 y.1, .int .i64 y.2]] W fun e w' => e = .returned (.int .i64 (cfE x y)) ∧ ∃ q os', w' = grow (W.drewN q) os' := by
  obtain ⟨x1, x2⟩ := x
  obtain ⟨y1, y2⟩ := y
  have HN := Lib.hid (new2 W #[.int .i64 x1, .int .i64 x2] #[.int .i64 y1, .int .i64 y2] 40 40)
  have HC := Lib.hid (compare_is (x1, x2) (y1, y2) W.heap.size (W.heap.size + 1) ((W.alloc (.cells #[.int .i64 x1, .int .i64 x2] 40)).alloc (.cells #[.int .i64 y1, .int .i64 y2] 40)).drew HN.out.1 HN.out.2.1)
  generalize cfE (x1, x2) (y1, y2) = r at HC ⊢
  dsimp only
  go_enter Try.func30, Try.ntmps30
  go_wp2_with fail
  go_region_with (go_at_call 31; refine HC.out.mono ?_; rintro e w1 ⟨rfl, rfl⟩)
  all_goals
    go_wp2
    go_ret
    exact ⟨rfl, 1, _, by rw [alloc_eq_grow, alloc_eq_grow, grow_grow]; rfl⟩
theorem cmp_neg {a b : Int} : cmpI a b < 0 ↔ a < b := by
  unfold cmpI
  by_cases h : a < b
  · simp [h]
  · by_cases h2 : b < a <;> simp [h, h2]
theorem cmp_zero {a b : Int} : cmpI a b = 0 ↔ a = b := by
  unfold cmpI
  by_cases h : a < b
  · simp [h]; omega
  · by_cases h2 : b < a
    · simp [h, h2]; omega
    · simp [h, h2]; omega
/-- One link stands ahead of another. -/
def bef (a b : En) : Bool := decide (a.1 < b.1 ∨ (a.1 = b.1 ∧ a.2 < b.2))
theorem lt_cfE (x y : En) : ltOf cfE x y = bef x y := by
  unfold ltOf cfE bef
  by_cases h : cmpI x.1 y.1 = 0
  · have e := cmp_zero.1 h
    rw [if_neg (by simp [h])]
    simp only [cmp_neg, e]
    simp
  · have e : x.1 ≠ y.1 := fun q => h (cmp_zero.2 q)
    rw [if_pos h]
    simp only [cmp_neg]
    simp [e]
theorem swoE : SWO (ltOf cfE) where
  irrefl x := by rw [lt_cfE]; simp [bef]
  trans x y z h1 h2 := by rw [lt_cfE] at *; simp [bef] at *; omega
  ntrans x y z h1 h2 := by rw [lt_cfE] at *; simp [bef] at *; omega
end Go.Proofs.Ytmflalnajinejaa.T
