import Derived.Deep.DeepCutAuto
import Derived.Laws.OwnMore
import Derived.OwnWalk
import Derived.Lib.AppendStr
import Derived.Lib.SliceRun
import Derived.Lib.SmallJoins
import Derived.IntWalk
import Derived.WalkMore
import Derived.Lib.OthersKept
import Derived.Deep.LoopGhost
import Derived.Deep.RegionLaw
import Derived.Deep.AppendLies
import Derived.Test.YtmflalnajinejaaProg
import Derived.Test.YtmflalnajinejaaMem
import Derived.Test.YtmflalnajinejaaBlk
import Derived.Test.YtmflalnajinejaaAp
import Derived.Test.YtmflalnajinejaaKa
import Derived.Test.YtmflalnajinejaaKc
import Derived.Test.YtmflalnajinejaaKd
import Derived.Test.YtmflalnajinejaaKl
import Derived.Test.YtmflalnajinejaaOwn
import Derived.Test.YtmflalnajinejaaKu
import Derived.Test.YtmflalnajinejaaKv
import Derived.Shelf.SlSortCmp.WholeK
import Derived.Lib.OwnBridge
import Derived.ChangeKeysEq
import Derived.RangeFuncGives
import Derived.RangeFuncSeq
import Derived.Sort.MapsRangeIn
import Derived.Sort.KeysCollected
import Derived.OwnWalkIn
import Derived.TacticsInMore
import Derived.RegionIn
import Derived.LoopNIn
import Derived.LoopIn
import Derived.Maps.AppendAt
import Derived.Shelf.Abstract
import Derived.WalkKit
import Derived.Outline
import Derived.WalkLawsBesides
import Derived.Deep.QuietTactic
import Derived.BigQuiet
import Derived.Lib.Hide
import Derived.Handy
import Derived.Deep.RegionHeld3
import Derived.Deep.DrawnRows
import Derived.KernelRfl
import Derived.Great.Walk
import Derived.Test.YtmflalnajinejaaOwn
namespace Go.Proofs.Ytmflalnajinejaa.T
open Go Go.RowKit Go.Sort Mem Own
set_option maxRecDepth 100000
set_option maxHeartbeats 1000000
set_option linter.unusedVariables false
set_option linter.unusedSimpArgs false

open Go.WideMaps Go.Maps
/-- A row of links. -/
def RdE (w : World) (A : Option Addr) (l : List En) : Prop := l = [] ∨ ∃ b off, A = some ⟨b, off, none⟩ ∧ ∀ i (h : i < l.length), w.cell? ⟨b, off + i * 2, none⟩ = some (.int .i64 l[i].1) ∧ w.cell? ⟨b, off + i * 2 + 1, none⟩ = some (.int .i64 l[i].2)
theorem RdE.keeps {w w' : World} {A : Option Addr} {l : List En} (h : RdE w A l) (hk : Keeps w w') : RdE w' A l := by
  rcases h with h | ⟨b, off, e, h⟩
  · exact .inl h
  · exact .inr ⟨b, off, e, fun i hi => ⟨hk _ _ (h i hi).1, hk _ _ (h i hi).2⟩⟩
theorem RdE.row {w : World} {A : Option Addr} {l : List En} (h : RdE w A l) (hl : 0 < l.length) : ∃ b off, A = some ⟨b, off, none⟩ ∧ ∀ i (h : i < l.length), w.cell? ⟨b, off + i * 2, none⟩ = some (.int .i64 l[i].1) ∧ w.cell? ⟨b, off + i * 2 + 1, none⟩ = some (.int .i64 l[i].2) := by
  rcases h with h | h
  · simp [h] at hl
  · exact h
theorem enC_at : ∀ (l : List En) (i : Nat) (h : i < l.length), (l.flatMap enC)[i * 2]? = some (.int .i64 l[i].1) ∧ (l.flatMap enC)[i * 2 + 1]? = some (.int .i64 l[i].2)
  | x :: l, 0, _ => ⟨rfl, rfl⟩
  | x :: l, i + 1, h => by
    have := enC_at l i (by simpa using h)
    have e1 : (i + 1) * 2 = i * 2 + 2 := by omega
    have e2 : (i + 1) * 2 + 1 = i * 2 + 1 + 2 := by omega
    rw [e2, e1, List.flatMap_cons]
    simp only [enC, List.cons_append, List.nil_append, List.getElem?_cons_succ, List.getElem_cons_succ]
    exact this
theorem below_grw {B : Nat} {w0 w : World} (h : Below B w0 w) (hB : B ≤ w.heap.size) (os : Array Obj) : Below B w0 (grow w os) :=
  ⟨h.os, h.tape, h.output, Nat.le_trans h.size (by show _ ≤ (w.heap ++ os).size; simp), fun k hk => (show (w.heap ++ os)[k]? = w0.heap[k]? by rw [Array.getElem?_append_left (by omega)]; exact h.block k hk)⟩
theorem holdsE {w : World} {g : Nat} {cur : Array Value} {T : TypeId} {l : List En} (hb : w.heap[g]? = some (.cells cur T (0, 0))) (ht : cur.toList.take (l.length * 2) = l.flatMap enC) : HoldsK enC 2 w g 0 l.toArray := by
  intro t ht2
  have ht3 : t < l.length * 2 := by simpa using ht2
  refine ⟨?_, of_blk_free hb _⟩
  rw [of_blk hb, Nat.zero_add, get_flatK _ _ _ _ (by simpa using ht3)]
  have hi : t / 2 < l.length := by omega
  have e := enC_at l (t / 2) hi
  have hq : cur[t]? = (l.flatMap enC)[t]? := by
    rw [← ht, List.getElem?_take_of_lt ht3, Array.getElem?_toList]
  have hg : l.toArray[t / 2]! = l[t / 2] := by rw [getElem!_pos _ _ (by simpa using hi)]; simp
  rw [hq, hg]
  rcases (show t % 2 = 0 ∨ t % 2 = 1 by omega) with h | h
  · have et : t = t / 2 * 2 := by omega
    rw [h]
    exact (congrArg (fun z => (l.flatMap enC)[z]?) et).trans (by rw [e.1]; simp [enC])
  · have et : t = t / 2 * 2 + 1 := by omega
    rw [h]
    exact (congrArg (fun z => (l.flatMap enC)[z]?) et).trans (by rw [e.2]; simp [enC])
theorem rdE_of {w : World} {g : Nat} {d : Array En} (h : HoldsK enC 2 w g 0 d) : RdE w (some ⟨g, 0, none⟩) d.toList := by
  refine .inr ⟨g, 0, rfl, fun i hi => ?_⟩
  have hi' : i < d.size := by simpa using hi
  have e : d[i]! = d.toList[i] := by rw [getElem!_pos d i hi']; simp
  have h0 := (h.cell hi' (c := 0) (by omega)).1
  have h1 := (h.cell hi' (c := 1) (by omega)).1
  rw [e] at h0 h1
  exact ⟨by simpa [enC] using h0, by simpa [enC] using h1⟩
theorem info3 : (Try.prog.info? 3).map (fun i => (i.zero, i.size, i.bytes)) = some (some (.int .i64 0), 1, 8) := by kernel_rfl
theorem eqI (n : Nat) (x y : Int) (w : World) : (Op.equalIn (n + 1) 3 (.int .i64 x) (.int .i64 y)).run Try.prog w = .ok (x == y) w := by
  simp only [Op.equalIn, Sem.run_bind, run_underlying Try.underlying3, Result.andThen_ok]
  simp
theorem eqE (a b c d : Int) (w : World) : (binOp .eql 40 (.agg #[.int .i64 a, .int .i64 b]) (.agg #[.int .i64 c, .int .i64 d])).run Try.prog w = .ok (.bool (decide ((a, b) = (c, d)))) w := by
  obtain ⟨i0, hi, hz0, hz1, hz2⟩ := info_parts info3
  have hc : Try.prog.cellsOf 3 = 1 := by kernel_rfl
  have h := run_equalIn_array (P := Try.prog) w 9999 #[.int .i64 a, .int .i64 b] #[.int .i64 c, .int .i64 d] Try.underlying40 hi
  have hr : List.range 2 = [0, 1] := rfl
  rw [hc, hr] at h
  have h1 : ∀ (x y : Int), (Op.equalIn 9999 3 (.int .i64 x) (.int .i64 y)).run Try.prog w = .ok (x == y) w := fun x y => by
    exact eqI 9998 x y w
  have hp : ∀ (x y : Value) , (part 3 #[x, y] 0).run Try.prog w = .ok x w ∧ (part 3 #[x, y] 1).run Try.prog w = .ok y w := fun x y => by
    have ha : (isAgg 3).run Try.prog w = .ok false w := Try.isAgg3 w
    constructor <;> simp [part, ha, Result.andThen]
  simp only [Op.eqItems, Sem.run_bind, (hp _ _).1, Result.andThen_ok, h1, Nat.zero_mul, Nat.one_mul, (hp _ _).2] at h
  simp only [binOp]
  simp only [show Op.equal 40 (.agg #[.int .i64 a, .int .i64 b]) (.agg #[.int .i64 c, .int .i64 d]) = Op.equalIn (9999 + 1) 40 (.agg #[.int .i64 a, .int .i64 b]) (.agg #[.int .i64 c, .int .i64 d]) from rfl, Sem.run_bind, h]
  by_cases e1 : a = c
  · by_cases e2 : b = d
    · simp [e1, e2, Sem.run_bind, (hp _ _).2, h1, Result.andThen]
    · simp [e1, e2, Sem.run_bind, (hp _ _).2, h1, Result.andThen]
  · simp [e1, Result.andThen]
end Go.Proofs.Ytmflalnajinejaa.T
