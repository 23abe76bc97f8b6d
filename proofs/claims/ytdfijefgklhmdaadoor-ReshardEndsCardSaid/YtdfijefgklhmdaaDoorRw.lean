import Derived.Deep.DeepCutAuto
import Derived.Laws.OwnMore
import Derived.OwnWalk
import Derived.Lib.AppendStr
import Derived.Lib.SliceRun
import Derived.Lib.SmallJoins
import Derived.IntWalk
import Derived.Lib.ItoaLen
import Derived.Test.YtdfijefgklhmdaaDoorProg
import Derived.Test.YtdfijefgklhmdaaDoorShelf
import Derived.Test.YtdfijefgklhmdaaDoorMem
import Derived.Test.YtdfijefgklhmdaaDoorRv
import Derived.WalkKit
import Derived.Outline
import Derived.WalkLawsBesides
import Derived.Deep.QuietTactic
import Derived.BigQuiet
import Derived.Lib.Hide
import Derived.Handy
import Derived.Deep.RegionHeld3
import Derived.Deep.DrawnRows
import Derived.KernelRfl
import Derived.Great.Walk
import Derived.Test.YtdfijefgklhmdaaDoorOwn
namespace Go.Proofs.YtdfijefgklhmdaaDoor.T
open Go Go.RowKit Go.Sort Mem Own
set_option maxRecDepth 100000
set_option maxHeartbeats 1000000
set_option linter.unusedVariables false
set_option linter.unusedSimpArgs false

theorem ans_end3 {g : Nat} {P : Option Addr} {pc : Nat} {Q Q' : Option Addr} {qc qc' : Nat} {D D' E : Dr} {w w' : World} (h0 : DrRd w g P pc Q qc D) (hs : St w g P pc Q' qc' D' w') (hp : D'.plan = D.plan) (hr : Rd w Q' D'.queue) (hcp : D'.queue.length ≤ qc') (hn : ∀ b off, Q' = some ⟨b, off, none⟩ → b ≠ g) (he : E = D') : AnsOut g P pc E w (.returned (.tuple #[])) w' := by
  subst he
  exact ⟨rfl, Q', qc', Lib.hid ⟨hs.1, by rw [hp]; exact h0.pl.only hs.2 h0.np, rd_only hr hs.2 hn, h0.np, hn, hcp⟩, Lib.hid hs.2⟩
theorem rd_tail {w : World} {b off : Nat} {x : ByteArray} {l : List ByteArray} (h : Rd w (some ⟨b, off, none⟩) (x :: l)) : Rd w (some ⟨b, off + 1, none⟩) l := by
  rcases h with h | ⟨b', off', e, h⟩
  · cases h
  · cases e
    refine .inr ⟨b, off + 1, rfl, fun i y hy => ?_⟩
    have := h (i + 1) y (by simpa using hy)
    rw [show off + 1 + i = off + (i + 1) by omega]; exact this
set_option maxHeartbeats 2000000 in
theorem ans_3 (g : Nat) (P : Option Addr) (pc : Nat) (Q : Option Addr) (qc : Nat) (D : Dr) (r : Rp) (A : Option Addr) (c : Nat) (w : World) (h : DrRd w g P pc Q qc D) (hf : D.failed = false) (he : D.dn < D.plan.length) (hln : D.plan.length ≤ 1000) (hc : D.call = 3) (hqn : D.queue ≠ []) : Calls Tryd.prog 12 #[.pointer (some ⟨g, 0, none⟩), rpV r A c] w (AnsOut g P pc (ansD D r) w) := by
  have HDR := Lib.hid h
  obtain ⟨d0, d1, d2, d3, d4, d5, d6, d7⟩ := facts8 h.blk
  obtain ⟨f0, f1, f2, f3, f4, f5, f6, f7⟩ := free8 h.blk
  have hg := lt_of_block h.blk
  obtain ⟨plan, B, T, dn, call, queue, ep, failed⟩ := D
  obtain ⟨k, z, t, ks⟩ := r
  dsimp only at hqn
  dsimp only at d0 d1 d2 d3 d4 d5 d6 d7 hf he hc hln
  subst hf hc
  clear h
  have hgw : g ≠ w.heap.size := by omega
  have hne : ((dn : Int) == (plan.length : Int)) = false := by rw [beq_eq_false_iff_ne]; omega
  have HND := Lib.hid (show ¬ dn = plan.length by omega)
  obtain ⟨x, l, rfl⟩ : ∃ x l, queue = x :: l := by cases queue with | nil => exact absurd rfl hqn | cons x l => exact ⟨x, l, rfl⟩
  obtain ⟨qb, qo, rfl⟩ := HDR.out.qu.addr (by simp)
  clear hqn
  go_enter Tryd.func12, Tryd.ntmps12
  go_wp2
  go_quiet (fail)
  go_wp2
  all_goals
    have hcp := HDR.out.cp
    simp only [List.length_cons] at hcp
    go_end0
    have hnd := HND.out
    first
      | (have hl0 : l = [] := List.length_eq_zero_iff.1 (by omega)
         refine ans_end3 HDR.out (by (repeat with_reducible first | apply st_fail | apply st_call | apply st_queue | apply st_drewN | apply st_alloc); exact st_base HDR.out (Below.refl _ _)) (by rfl) (.inl hl0) (by rw [hl0]; exact Nat.zero_le _) (by intro b off e; cases e; exact HDR.out.nq _ _ rfl) ?_
         clear HDR HND d0 d1 d2 d3 d6 d7 f0 f1 f2 f3 f4 f5 f6 f7 hcp; try dsimp only
         simp_all [ansD, rOk, rAgain, rBusy, rNokey, rNotEmpty])
      | (refine ans_end3 HDR.out (by (repeat with_reducible first | apply st_fail | apply st_call | apply st_queue | apply st_drewN | apply st_alloc); exact st_base HDR.out (Below.refl _ _)) (by rfl) (rd_tail HDR.out.qu) (by show l.length ≤ qc - 1; omega) (by intro b off e; cases e; exact HDR.out.nq _ _ rfl) ?_
         clear HDR HND d0 d1 d2 d3 d6 d7 f0 f1 f2 f3 f4 f5 f6 f7 hcp; try dsimp only
         simp_all [ansD, rOk, rAgain, rBusy, rNokey, rNotEmpty])
end Go.Proofs.YtdfijefgklhmdaaDoor.T
