import Derived.Deep.DeepCutAuto
import Derived.Laws.OwnMore
import Derived.OwnWalk
import Derived.Lib.AppendStr
import Derived.Lib.SliceRun
import Derived.Lib.SmallJoins
import Derived.IntWalk
import Derived.Lib.ItoaLen
import Derived.Deep.AppendLies
import Derived.Test.YtdfijefgklhmdaaDoorProg
import Derived.Test.YtdfijefgklhmdaaDoorShelf
import Derived.Test.YtdfijefgklhmdaaDoorMem
import Derived.Deep.RegionLaw
import Derived.Test.YtdfijefgklhmdaaDoorSo
import Derived.Test.YtdfijefgklhmdaaDoorZr
import Derived.WalkKit
import Derived.Outline
import Derived.WalkLawsBesides
import Derived.Deep.QuietTactic
import Derived.BigQuiet
import Derived.Lib.Hide
import Derived.Handy
import Derived.Deep.RegionHeld3
import Derived.Deep.DrawnRows
import Derived.KernelRfl
import Derived.Great.Walk
import Derived.Test.YtdfijefgklhmdaaDoorOwn
namespace Go.Proofs.YtdfijefgklhmdaaDoor.T
open Go Go.RowKit Go.Sort Mem Own
set_option maxRecDepth 100000
set_option maxHeartbeats 1000000
set_option linter.unusedVariables false
set_option linter.unusedSimpArgs false

theorem app_many {w3 wa : World} {AM : Option Addr} {zs : List Int} {cm b : Nat} (hb : w3.heap.size ≤ b) (hL : wa.ownsRow w3.heap.size 3 1 (.slice (some ⟨b, 0, none⟩) 0 0) 0 []) (hz : RdI wa AM zs) (h3 : Below w3.heap.size w3 wa) (hzn : zs.length * 8 ≤ 140737488355000) :
    ∃ v' w', (Builtin.append_ #[49, 49] 49 #[.slice (some ⟨b, 0, none⟩) 0 0, .slice AM zs.length cm]).run Tryd.prog wa = .ok v' w' ∧ (w'.ownsRow w3.heap.size 3 1 v' zs.length (ivs zs) ∧ Below w3.heap.size w3 w') := by
  obtain ⟨i0, hi, hz0, hz1, hz2⟩ := info_parts info3
  cases AM with
  | none =>
    have hl : zs = [] := by rcases hz with h | ⟨b, off, h, _⟩; exact h; cases h
    subst hl
    refine ⟨.slice (some ⟨b, 0, none⟩) 0 0, wa, ?_, hL, h3⟩
    simp [Builtin.append_, run_underlying Tryd.underlying49, sizeOf, typeInfo, hi, Builtin.lenOf, Builtin.firstCells, loadCells, loadCellsFrom, storeCells]
  | some a =>
    obtain ⟨v', w', h1, h2, h4, -⟩ := run_append_own (P := Tryd.prog) wa w3.heap.size 49 49 3 i0 _ 1 8 Tryd.underlying49 hi hz0 hz1 hz2 rfl (by decide) _ 0 [] hL a zs.length cm (ivs zs) (by simp [ivs]) (newsI hz) (by intro u hu; simp only [ivs, List.mem_map] at hu; obtain ⟨z, _, rfl⟩ := hu; rfl) (by unfold maxLen; omega) (by omega) h3.size
    refine ⟨v', w', h1, by simpa using h2, h3.grown h4 h3.size (fun k hk => ?_)⟩
    simp [Value.ownBlock] at hk
    omega
theorem ivs_at {zs : List Int} {M d : Nat} (hd : d < M) : (ivs zs ++ List.replicate M (Value.int .i64 0))[d]? = some (.int .i64 (zs.getD d 0)) := by
  rw [List.getD_eq_getElem?_getD]
  by_cases h : d < zs.length
  · rw [List.getElem?_append_left (by simpa [ivs] using h)]
    simp [ivs, h]
  · rw [List.getElem?_append_right (by simp [ivs]; omega)]
    simp [ivs, List.getElem?_replicate]
    exact ⟨by omega, by rw [List.getElem?_eq_none (by omega)]; rfl⟩
theorem app_zeros {w3 w4 : World} {v : Value} {zs : List Int} {n M d : Nat} (hn : n = zs.length) (hO : w4.ownsRow w3.heap.size 3 1 v n (ivs zs)) (hB : Below w3.heap.size w3 w4) (hzn : zs.length * 8 ≤ 140737488355000) (hM : M ≤ 30) (hd : d < M) :
    ∃ v' w', (Builtin.append_ #[49, 3] 49 #[v, .int .i64 M]).run Tryd.prog w4 = .ok v' w' ∧ (∃ g cap, v' = .slice (some ⟨g, 0, none⟩) (n + M) cap ∧ w'.cell? ⟨g, d, none⟩ = some (.int .i64 (zs.getD d 0)) ∧ Below w3.heap.size w3 w') := by
  obtain ⟨i0, hi, hz0, hz1, hz2⟩ := info_parts info3
  obtain ⟨v', w', h1, h2, h3⟩ := Own.run_append_own_zeros (P := Tryd.prog) w4 w3.heap.size 49 3 49 3 i0 (.int .i64 0) 8 .i64 .i64 Tryd.underlying49 Tryd.underlying3 hi hz0 hz1 hz2 rfl rfl v n (ivs zs) hO M (by unfold maxLen; omega) (by omega) hB.size
  obtain ⟨g, cap, rfl, -, -⟩ := h2.form (by omega)
  refine ⟨_, w', h1, g, cap, rfl, ?_, hB.grown h3 hB.size (fun k hk => (hO.lt k hk).1)⟩
  rw [h2.cellAt d (by omega)]
  exact ivs_at hd
def TOut (rk rz : Int) (rt : ByteArray) (rks : List (Int × ByteArray)) (lk : List ByteArray) (w : World) (e : Ending) (w' : World) : Prop :=
  ∃ A n c A' m c', e = .returned (.tuple #[.agg #[.int .i64 rk, .int .i64 rz, .string rt, .slice A n c], .slice A' m c']) ∧ RowKit.Hid (n = rks.length) ∧ RowKit.Hid (m = lk.length) ∧ RowKit.Hid (RdK w' A rks) ∧ RowKit.Hid (Rd w' A' lk) ∧ RowKit.Hid (lk.length ≤ c') ∧ RowKit.Hid (Below w.heap.size w w')
theorem tout_of {rk rz : Int} {rt : ByteArray} {rks : List (Int × ByteArray)} {lk : List ByteArray} {w w' : World} {e : Ending} (h : TellsOut ⟨rk, rz, rt, rks⟩ lk w e w') : TOut rk rz rt rks lk w e w' := by
  obtain ⟨A, c, A', c', rfl, h1, h2, h3, h4⟩ := h
  exact ⟨A, _, c, A', _, c', rfl, Lib.hid rfl, Lib.hid rfl, h1, h2, h3, h4⟩
end Go.Proofs.YtdfijefgklhmdaaDoor.T
