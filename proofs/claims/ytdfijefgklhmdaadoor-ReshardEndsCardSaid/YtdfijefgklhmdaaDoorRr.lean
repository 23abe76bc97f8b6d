import Derived.Deep.DeepCutAuto
import Derived.Laws.OwnMore
import Derived.OwnWalk
import Derived.Lib.AppendStr
import Derived.Lib.SliceRun
import Derived.Lib.SmallJoins
import Derived.IntWalk
import Derived.Lib.ItoaLen
import Derived.Test.YtdfijefgklhmdaaDoorProg
import Derived.Test.YtdfijefgklhmdaaDoorShelf
import Derived.Test.YtdfijefgklhmdaaDoorMem
import Derived.Test.YtdfijefgklhmdaaDoorR1
import Derived.Test.YtdfijefgklhmdaaDoorRa
import Derived.Test.YtdfijefgklhmdaaDoorRb
import Derived.Test.YtdfijefgklhmdaaDoorRc
import Derived.Test.YtdfijefgklhmdaaDoorRe
import Derived.Test.YtdfijefgklhmdaaDoorRf
import Derived.Test.YtdfijefgklhmdaaDoorRg
import Derived.Test.YtdfijefgklhmdaaDoorRh
import Derived.Test.YtdfijefgklhmdaaDoorRp
import Derived.Deep.AppendLies
import Derived.WalkKit
import Derived.Outline
import Derived.WalkLawsBesides
import Derived.Deep.QuietTactic
import Derived.BigQuiet
import Derived.Lib.Hide
import Derived.Handy
import Derived.Deep.RegionHeld3
import Derived.Deep.DrawnRows
import Derived.KernelRfl
import Derived.Great.Walk
import Derived.Test.YtdfijefgklhmdaaDoorOwn
namespace Go.Proofs.YtdfijefgklhmdaaDoor.T
open Go Go.RowKit Go.Sort Mem Own
set_option maxRecDepth 100000
set_option maxHeartbeats 1000000
set_option linter.unusedVariables false
set_option linter.unusedSimpArgs false

theorem ans_1 (g : Nat) (P : Option Addr) (pc : Nat) (Q : Option Addr) (qc : Nat) (D : Dr) (r : Rp) (A : Option Addr) (c : Nat) (w : World) (h : DrRd w g P pc Q qc D) (hf : D.failed = false) (he : D.dn < D.plan.length) (hln : D.plan.length ≤ 1000) (hc : D.call = 1) : Calls Tryd.prog 12 #[.pointer (some ⟨g, 0, none⟩), rpV r A c] w (AnsOut g P pc (ansD D r) w) := by
  have HDR := Lib.hid h
  obtain ⟨d0, d1, d2, d3, d4, d5, d6, d7⟩ := facts8 h.blk
  obtain ⟨f0, f1, f2, f3, f4, f5, f6, f7⟩ := free8 h.blk
  have hg := lt_of_block h.blk
  obtain ⟨plan, B, T, dn, call, queue, ep, failed⟩ := D
  obtain ⟨k, z, t, ks⟩ := r
  dsimp only at d0 d1 d2 d3 d4 d5 d6 d7 hf he hc hln
  subst hf hc
  clear h
  have hgw : g ≠ w.heap.size := by omega
  have hne : ((dn : Int) == (plan.length : Int)) = false := by rw [beq_eq_false_iff_ne]; omega
  have HND := Lib.hid (show ¬ dn = plan.length by omega)
  go_enter Tryd.func12, Tryd.ntmps12
  go_wp2
  go_quiet (fail)
  go_wp2
  all_goals
    first
      | (go_end0; first | refine ans_end HDR.out (st_fail (st_call (st_drewN (st_alloc (st_base HDR.out (Below.refl _ _)) _) _) _) _) rfl rfl ?_)
      | (refine bodyPost_ret (results_none rfl _ _ _) rfl ?_; refine ans_end HDR.out (st_drewN (st_alloc (st_base HDR.out (Below.refl _ _)) _) _) rfl rfl ?_)
    have hnd := HND.out
    clear HDR HND d0 d1 d2 d3 d4 d5 d6 d7 f0 f1 f2 f3 f4 f5 f6 f7
    simp_all [ansD, rOk, rAgain, rBusy, rNokey, rNotEmpty]
end Go.Proofs.YtdfijefgklhmdaaDoor.T
