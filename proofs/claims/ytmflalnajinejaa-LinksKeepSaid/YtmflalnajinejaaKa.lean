import Derived.Deep.DeepCutAuto
import Derived.Laws.OwnMore
import Derived.OwnWalk
import Derived.Lib.AppendStr
import Derived.Lib.SliceRun
import Derived.Lib.SmallJoins
import Derived.IntWalk
import Derived.WalkMore
import Derived.Lib.OthersKept
import Derived.Deep.LoopGhost
import Derived.Deep.RegionLaw
import Derived.Deep.AppendLies
import Derived.Test.YtmflalnajinejaaProg
import Derived.Test.YtmflalnajinejaaMem
import Derived.Test.YtmflalnajinejaaBlk
import Derived.Test.YtmflalnajinejaaAp
import Derived.WideKeyArr
import Derived.Maps.OwnSet
import Derived.Maps.Range
import Derived.WalkKit
import Derived.Outline
import Derived.WalkLawsBesides
import Derived.Deep.QuietTactic
import Derived.BigQuiet
import Derived.Lib.Hide
import Derived.Handy
import Derived.Deep.RegionHeld3
import Derived.Deep.DrawnRows
import Derived.KernelRfl
import Derived.Great.Walk
import Derived.Test.YtmflalnajinejaaOwn
namespace Go.Proofs.Ytmflalnajinejaa.T
open Go Go.RowKit Go.Sort Mem Own
set_option maxRecDepth 100000
set_option maxHeartbeats 1000000
set_option linter.unusedVariables false
set_option linter.unusedSimpArgs false

open Go.WideMaps Go.Maps
theorem key40 : ArrKey Try.prog 40 3 2 := ⟨Try.underlying40, by kernel_rfl, by kernel_rfl, by kernel_rfl⟩
theorem K40 : Keyed Try.prog 40 := Keyed.of_law key40.law
/-- A link's ends. -/
abbrev En := Int × Int
def En.wf (x : En) : Prop := (Lit.int .i64 x.1).wf = true ∧ (Lit.int .i64 x.2).wf = true
def enV (x : En) : Value := .agg #[.int .i64 x.1, .int .i64 x.2]
def enK (x : En) : Lit := .string (keyBytes [.int .i64 x.1, .int .i64 x.2])
theorem enV_inj {x y : En} (h : enV x = enV y) : x = y := by
  unfold enV at h
  injection h with h; injection h with h
  injection h with h1 h2
  injection h2 with h2 _
  injection h1 with _ h1
  injection h2 with _ h2
  exact Prod.ext h1 h2
theorem lits_int (d : Nat) (v : Value) : Try.prog.keyLits (d + 1) 3 [v] = match v with | .int .i64 n => if (Lit.int .i64 n).wf = true then some [.int .i64 n] else none | _ => none := by
  unfold Program.keyLits
  rw [Try.underlying3]
  cases v <;> simp
  rename_i k n
  cases k <;> simp
theorem lits_en (d : Nat) (a b : Value) : Try.prog.keyLits (d + 2) 40 [a, b] = (Try.prog.keyLits (d + 1) 3 [a]).bind fun l => (Try.prog.keyLits (d + 1) 3 [b]).map fun l2 => l ++ l2 := by
  conv => lhs; unfold Program.keyLits
  rw [Try.underlying40]
  have h1 : Try.prog.cellsOf 40 = 2 := by kernel_rfl
  have h2 : Try.prog.cellsOf 3 = 1 := by kernel_rfl
  simp only [h1, h2]
  have h3 : List.range 2 = [0, 1] := rfl
  rw [if_pos (show [a, b].length = 2 from rfl), h3]
  simp only [List.mapM_cons, List.mapM_nil, Nat.zero_mul, Nat.one_mul, List.drop_zero, List.take_succ_cons, List.take_zero, List.drop_succ_cons]
  cases Try.prog.keyLits (d + 1) 3 [a] with
  | none => rfl
  | some l =>
    cases Try.prog.keyLits (d + 1) 3 [b] with
    | none => rfl
    | some l2 => simp
theorem tysize : Try.prog.types.size = 120 + 2 := by kernel_rfl
theorem keyOf_en {x : En} (h : x.wf) : keyOf Try.prog 40 (enV x) = some (enK x) := by
  unfold keyOf
  rw [Try.underlying40]
  have h1 : Try.prog.keyType 40 = true := by kernel_rfl
  dsimp only
  rw [h1]
  have h3 : Try.prog.cellsOf 40 = 2 := by kernel_rfl
  have h2 : (enV x).formed Try.prog 40 = true := by
    unfold Value.formed enV
    rw [Try.underlying40, h3]; rfl
  rw [h2, tysize]
  show Option.map _ (Try.prog.keyLits (121 + 2) 40 [.int .i64 x.1, .int .i64 x.2]) = _
  rw [lits_en, lits_int, lits_int]
  simp [h.1, h.2, enK]
theorem keyOf_inv {v : Value} {l : Lit} (h : keyOf Try.prog 40 v = some l) : ∃ x : En, x.wf ∧ v = enV x ∧ l = enK x := by
  unfold keyOf at h
  rw [Try.underlying40] at h
  have h1 : Try.prog.keyType 40 = true := by kernel_rfl
  have h3 : Try.prog.cellsOf 40 = 2 := by kernel_rfl
  dsimp only at h
  rw [h1, tysize] at h
  split at h
  · rename_i hf
    have hff : v.formed Try.prog 40 = true := by simpa using hf
    unfold Value.formed at hff
    rw [Try.underlying40, h3] at hff
    cases v with
    | agg cs =>
      obtain ⟨cs⟩ := cs
      have hl : cs.length = 2 := by simpa using hff
      match cs, hl with
      | [a, b], _ =>
        have h' : Option.map (fun ls => Lit.string (keyBytes ls)) (Try.prog.keyLits (121 + 2) 40 [a, b]) = some l := h
        rw [lits_en, lits_int, lits_int] at h'
        cases a with
        | int ka na =>
          cases ka with
          | i64 =>
            dsimp only at h'
            by_cases wa : (Lit.int .i64 na).wf = true
            · rw [if_pos wa] at h'
              cases b with
              | int kb nb =>
                cases kb with
                | i64 =>
                  dsimp only at h'
                  by_cases wb : (Lit.int .i64 nb).wf = true
                  · rw [if_pos wb] at h'
                    simp at h'
                    exact ⟨(na, nb), ⟨wa, wb⟩, rfl, h'.symm⟩
                  · rw [if_neg wb] at h'; cases h'
                | _ => cases h'
              | _ => cases h'
            · rw [if_neg wa] at h'; cases h'
          | _ => cases h'
        | _ => cases h'
    | _ => cases hff
  · cases h
theorem enK_inj {x y : En} (hx : x.wf) (hy : y.wf) (h : enK x = enK y) : x = y := enV_inj (K40.inj (keyOf_en hx) (by rw [keyOf_en hy, h]))
end Go.Proofs.Ytmflalnajinejaa.T
