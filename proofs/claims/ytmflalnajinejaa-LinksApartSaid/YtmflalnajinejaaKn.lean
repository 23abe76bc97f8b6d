import Derived.Deep.DeepCutAuto
import Derived.Laws.OwnMore
import Derived.OwnWalk
import Derived.Lib.AppendStr
import Derived.Lib.SliceRun
import Derived.Lib.SmallJoins
import Derived.IntWalk
import Derived.WalkMore
import Derived.Lib.OthersKept
import Derived.Deep.LoopGhost
import Derived.Deep.RegionLaw
import Derived.Deep.AppendLies
import Derived.Test.YtmflalnajinejaaProg
import Derived.Test.YtmflalnajinejaaMem
import Derived.Test.YtmflalnajinejaaBlk
import Derived.Test.YtmflalnajinejaaAp
import Derived.Test.YtmflalnajinejaaKa
import Derived.Test.YtmflalnajinejaaKd
import Derived.Test.YtmflalnajinejaaKh
import Derived.Test.YtmflalnajinejaaKl
import Derived.Test.YtmflalnajinejaaKm
import Derived.Test.YtmflalnajinejaaOwn
import Derived.WalkKit
import Derived.Outline
import Derived.WalkLawsBesides
import Derived.Deep.QuietTactic
import Derived.BigQuiet
import Derived.Lib.Hide
import Derived.Handy
import Derived.Deep.RegionHeld3
import Derived.Deep.DrawnRows
import Derived.KernelRfl
import Derived.Great.Walk
import Derived.Test.YtmflalnajinejaaOwn
namespace Go.Proofs.Ytmflalnajinejaa.T
open Go Go.RowKit Go.Sort Mem Own
set_option maxRecDepth 100000
set_option maxHeartbeats 1000000
set_option linter.unusedVariables false
set_option linter.unusedSimpArgs false

open Go.WideMaps Go.Maps
theorem info33 : (Try.prog.info? 33).map (fun i => (i.zero, i.size, i.bytes)) = some (some (ltV Lt.zero ⟨none, 0, none, 0⟩), 13, 160) := by kernel_rfl
theorem zeroO (w : World) : LtO w Lt.zero ⟨none, 0, none, 0⟩ := ⟨.inl rfl, .inl rfl⟩
theorem drew_blk {w : World} {b : Nat} {o : Obj} (h : w.heap[b]? = some o) : w.drew.heap[b]? = some o := h
theorem next_0 (g b n : Nat) (Q : En → List Lt) (x y : Int) (w : World) (h : LK w g b n Q) (hx : En.wf (x, y)) (hq : Q (x, y) = []) :
    Calls Try.prog 14 #[.pointer (some ⟨g, 0, none⟩), .int .i64 x, .int .i64 y] w fun e w' => e = .returned (.tuple #[ltV Lt.zero ⟨none, 0, none, 0⟩, .bool false]) ∧ Below w.heap.size w w' := by
  have HN := Lib.hid (new2 w #[.int .i64 0, .int .i64 0, .int .i64 0, .int .i64 0, .string ⟨#[]⟩, .string ⟨#[]⟩, .slice none 0 0, .int .i64 0, .int .i64 0, .string ⟨#[]⟩, .slice none 0 0, .bool false, .int .i64 0] #[.int .i64 x, .int .i64 y] 33 40)
  obtain ⟨W, hW⟩ : ∃ W, W = (w.alloc (.cells #[.int .i64 0, .int .i64 0, .int .i64 0, .int .i64 0, .string ⟨#[]⟩, .string ⟨#[]⟩, .slice none 0 0, .int .i64 0, .int .i64 0, .string ⟨#[]⟩, .slice none 0 0, .bool false, .int .i64 0] 33)).alloc (.cells #[.int .i64 x, .int .i64 y] 40) := ⟨_, rfl⟩
  have HW := Lib.hid hW
  rw [← hW] at HN
  clear hW
  have hL := (h.below (HN.out.2.2)).below ((Below.refl _ _).drew)
  obtain ⟨A, c, hrun, h1, h2, h3, h4⟩ := hL.look hx
  have hc := hL.cell
  have hc' : W.cell? ⟨g, 0, none⟩ = some (.map (some b)) := hc
  rw [hq] at hrun
  have hrun' : (Instr.lookup 51 (.map (some b)) (.agg #[.int .i64 x, .int .i64 y]) false).run Try.prog W.drew = .ok (.slice A 0 c) W.drew := hrun
  clear hrun h3
  have HZ := Lib.hid hL
  clear h hL
  obtain ⟨z0, z1, z2, z3, z4, z5, z6, z7, z8, z9, z10, z11, z12⟩ := cells13 HN.out.1
  obtain ⟨f0, f1, f2, f3, f4, f5, f6, f7, f8, f9, f10, f11, f12⟩ := frees13 HN.out.1
  obtain ⟨k0, k1⟩ := cells2 HN.out.2.1
  go_enter Try.func14, Try.ntmps14
  go_upto_region 2 with fail
  rw [← HW.out]
  go_region_with fail
  all_goals
    go_wp2
    refine wp_ret_next rfl rfl rfl (drew_blk (sets13 _ _ _ _ _ _ _ _ _ _ _ _ _ HN.out.1)) ?_
    exact ⟨rfl, (below_sets13 HN.out.2.2 (Nat.le_refl _)).drew⟩
theorem lt_cells {w : World} {b off : Nat} {l : Lt} {o : Wh} (h : ∀ j u, (ltC l o)[j]? = some u → w.cell? ⟨b, off + j, none⟩ = some u) :
    w.cell? ⟨b, off, none⟩ = some (.int .i64 l.kind) ∧ w.cell? ⟨b, off + 1, none⟩ = some (.int .i64 l.num) ∧ w.cell? ⟨b, off + 2, none⟩ = some (.int .i64 l.slot) ∧ w.cell? ⟨b, off + 3, none⟩ = some (.int .i64 l.ends) ∧ w.cell? ⟨b, off + 4, none⟩ = some (.string l.key) ∧ w.cell? ⟨b, off + 5, none⟩ = some (.string l.text) ∧ w.cell? ⟨b, off + 6, none⟩ = some (.slice o.a l.args.length o.ac) ∧ w.cell? ⟨b, off + 7, none⟩ = some (.int .i64 l.rep.k) ∧ w.cell? ⟨b, off + 8, none⟩ = some (.int .i64 l.rep.z) ∧ w.cell? ⟨b, off + 9, none⟩ = some (.string l.rep.t) ∧ w.cell? ⟨b, off + 10, none⟩ = some (.slice o.r l.rep.l.length o.rc) ∧ w.cell? ⟨b, off + 11, none⟩ = some (.bool l.good) ∧ w.cell? ⟨b, off + 12, none⟩ = some (.int .i64 l.asking) := ⟨h 0 _ rfl, h 1 _ rfl, h 2 _ rfl, h 3 _ rfl, h 4 _ rfl, h 5 _ rfl, h 6 _ rfl, h 7 _ rfl, h 8 _ rfl, h 9 _ rfl, h 10 _ rfl, h 11 _ rfl, h 12 _ rfl⟩
theorem lt_kept {w w' : World} {b off : Nat} {l : Lt} {o : Wh} (h : ∀ j u, (ltC l o)[j]? = some u → w.cell? ⟨b, off + j, none⟩ = some u) (hk : Keeps w w') : ∀ j u, (ltC l o)[j]? = some u → w'.cell? ⟨b, off + j, none⟩ = some u := fun j u e => hk _ _ (h j u e)
theorem turn_keeps {w w' : World} {b : Nat} (h : w.mapTurned w' b) : Keeps w w' := by
  have h' := h
  obtain ⟨es, ck, _, _, e, _⟩ := h
  exact keeps_grown e h'.grown
theorem turn_blk {w w' : World} {b k : Nat} {o : Obj} (h : w.mapTurned w' b) (hk : w.heap[k]? = some o) (hne : k ≠ b) : w'.heap[k]? = some o := by
  rw [h.grown.block k (lt_of_blk hk) (fun e => hne (Option.some.inj e))]; exact hk
/-- What Next leaves. -/
theorem queue_pop {w w' : World} {m : En → Option Value} {n : Nat} {Q : En → List Lt} (h : Queues w m n Q) (hk : Keeps w w') {x : En} {l : Lt} {r : List Lt} (hq : Q x = l :: r) {bq off c : Nat} (hc : r.length + 1 ≤ c) (hcm : c ≤ maxLen)
    (hrow : ∀ i (h : i < (l :: r).length), LtAt w bq (off + i * 13) (l :: r)[i]) {o : Option Value} (ho : (r = [] ∧ o = none) ∨ (r ≠ [] ∧ o = some (.slice (some ⟨bq, off + 13, none⟩) r.length (c - 1)))) : Queues w' (upd m x o) (n + 1) (qpop Q x) := by
  intro y
  obtain ⟨h1, h2⟩ := (h.keeps hk) y
  by_cases e : y = x
  · subst e
    have e2 : qpop Q y y = r := by simp [qpop, hq]
    rw [e2]
    have hl : r.length ≤ n + 1 := by rw [hq] at h1; simp at h1; omega
    refine ⟨hl, ?_⟩
    have e3 : upd m y o y = o := by simp [upd]
    rw [e3]
    rcases ho with ⟨rfl, rfl⟩ | ⟨hr, rfl⟩
    · exact .inl ⟨rfl, rfl⟩
    · refine .inr ⟨_, _, rfl, hr, by omega, by omega, .inr ⟨bq, off + 13, rfl, fun i hi => ?_⟩⟩
      have := (hrow (i + 1) (by simpa using hi)).keeps hk
      rw [show off + (i + 1) * 13 = off + 13 + i * 13 by omega] at this
      simpa using this
  · have e2 : qpop Q x y = Q y := by simp [qpop, e]
    have e3 : upd m x o y = m y := by simp [upd, e]
    rw [e2, e3]
    exact ⟨by omega, h2⟩
theorem upd2 (m : En → Option Value) (x : En) (o o' : Option Value) : upd (upd m x o) x o' = upd m x o' := by
  funext y; unfold upd; split <;> rfl
end Go.Proofs.Ytmflalnajinejaa.T
