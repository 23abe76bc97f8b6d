import Derived.Deep.DeepCutAuto
import Derived.Laws.OwnMore
import Derived.OwnWalk
import Derived.Lib.AppendStr
import Derived.Lib.SliceRun
import Derived.Lib.SmallJoins
import Derived.IntWalk
import Derived.Lib.ItoaLen
import Derived.Test.YtdfijefgklhmdaaDoorProg
import Derived.Test.YtdfijefgklhmdaaDoorShelf
import Derived.Test.YtdfijefgklhmdaaDoorMem
import Derived.Test.YtdfijefgklhmdaaDoorRr
import Derived.Test.YtdfijefgklhmdaaDoorRu
import Derived.WalkKit
import Derived.Outline
import Derived.WalkLawsBesides
import Derived.Deep.QuietTactic
import Derived.BigQuiet
import Derived.Lib.Hide
import Derived.Handy
import Derived.Deep.RegionHeld3
import Derived.Deep.DrawnRows
import Derived.KernelRfl
import Derived.Great.Walk
import Derived.Test.YtdfijefgklhmdaaDoorOwn
namespace Go.Proofs.YtdfijefgklhmdaaDoor.T
open Go Go.RowKit Go.Sort Mem Own
set_option maxRecDepth 100000
set_option maxHeartbeats 1000000
set_option linter.unusedVariables false
set_option linter.unusedSimpArgs false

theorem ne_new {w : World} {g q : Nat} {o : Obj} {A : Option Addr} (hg : g < w.heap.size) (h : ∀ b off, A = some ⟨b, off, none⟩ → ((w.alloc o).drewN q).heap.size ≤ b) : ∀ b off, A = some ⟨b, off, none⟩ → b ≠ g := by
  intro b off e hb
  have h1 := h b off e
  have h2 : ((w.alloc o).drewN q).heap.size = w.heap.size + 1 := alloc_size w o
  omega
theorem ans_end2 {g : Nat} {P : Option Addr} {pc : Nat} {Q Q' : Option Addr} {qc qc' : Nat} {D D' E : Dr} {w w' : World} (h0 : DrRd w g P pc Q qc D) (hs : St w g P pc Q' qc' D' w') (hp : D'.plan = D.plan) (hr : Rd w' Q' D'.queue) (hcp : D'.queue.length ≤ qc') (hn : ∀ b off, Q' = some ⟨b, off, none⟩ → b ≠ g) (he : E = D') : AnsOut g P pc E w (.returned (.tuple #[])) w' := by
  subst he
  exact ⟨rfl, Q', qc', Lib.hid ⟨hs.1, by rw [hp]; exact h0.pl.only hs.2 h0.np, hr, h0.np, hn, hcp⟩, Lib.hid hs.2⟩
theorem rd_set {w : World} {A : Option Addr} {l : List ByteArray} (h : Rd w A l) {b i : Nat} {u : Value} (hA : ∀ b' off, A = some ⟨b', off, none⟩ → b' ≠ b) : Rd (w.setCell ⟨b, i, none⟩ u) A l := rd_only h (only_set w b i u) hA
set_option maxHeartbeats 2000000 in
theorem ans_2 (g : Nat) (P : Option Addr) (pc : Nat) (Q : Option Addr) (qc : Nat) (D : Dr) (r : Rp) (A : Option Addr) (c : Nat) (w : World) (h : DrRd w g P pc Q qc D) (hf : D.failed = false) (he : D.dn < D.plan.length) (hln : D.plan.length ≤ 1000) (hc : D.call = 2) (hrk : RdK w A r.ks) (hkn : r.ks.length ≤ 8796093022000) : Calls Tryd.prog 12 #[.pointer (some ⟨g, 0, none⟩), rpV r A c] w (AnsOut g P pc (ansD D r) w) := by
  have HDR := Lib.hid h
  obtain ⟨d0, d1, d2, d3, d4, d5, d6, d7⟩ := facts8 h.blk
  obtain ⟨f0, f1, f2, f3, f4, f5, f6, f7⟩ := free8 h.blk
  have hg := lt_of_block h.blk
  obtain ⟨plan, B, T, dn, call, queue, ep, failed⟩ := D
  obtain ⟨k, z, t, ks⟩ := r
  dsimp only at hrk hkn
  dsimp only at d0 d1 d2 d3 d4 d5 d6 d7 hf he hc hln
  subst hf hc
  clear h
  have HRK := Lib.hid hrk
  clear hrk
  have hgw : g ≠ w.heap.size := by omega
  have hne : ((dn : Int) == (plan.length : Int)) = false := by rw [beq_eq_false_iff_ne]; omega
  have HND := Lib.hid (show ¬ dn = plan.length by omega)
  go_enter Tryd.func12, Tryd.ntmps12
  go_wp2
  go_quiet (fail)
  go_wp2_with (go_at_call 24; refine Calls.mono (told_is ⟨_, z, t, ks⟩ A c _ (HRK.out.below ?_) hkn) ?_; (focus ((repeat (first | exact Below.refl _ _ | (refine Below.drew ?_) | (refine Go.below_drewN ?_ _) | (refine Below.alloc ?_ (by first | (simp; done) | omega | (simp; omega)) _) | (refine Below.setCell ?_ (by first | (simp; done) | omega | (simp; omega)) _) | (refine Below.trans ?_ (Below.mono (by assumption) (by first | (simp; done) | omega | (simp; omega)))))); done)); rintro e w1 ⟨A1, c1, rfl, HR1, HCP, HAb, hb1⟩; have HBK1 := Lib.hid (keep_block hb1 (st_drewN (st_alloc (st_base HDR.out (Below.refl _ _)) _) _).1); have HS1 := Lib.hid (st_below (st_drewN (st_alloc (st_base HDR.out (Below.refl _ _)) _) _) hb1); clear d0 d1 d2 d3 d4 d5 d6 d7 f0 f1 f2 f3 f4 f5 f6 f7; obtain ⟨d0, d1, d2, d3, d4, d5, d6, d7⟩ := facts8 HBK1.out; obtain ⟨f0, f1, f2, f3, f4, f5, f6, f7⟩ := free8 HBK1.out)
  all_goals
    first
      | (have HNE := Lib.hid (ne_new hg HAb.out)
         go_end0
         refine ans_end2 (Q' := A1) (qc' := c1) HDR.out (by (repeat with_reducible first | apply st_fail | apply st_call | apply st_queue); exact HS1.out) (by rfl) (by (repeat with_reducible refine rd_set ?_ HNE.out); exact HR1.out) HCP.out HNE.out ?_
         clear HRK HR1 HCP HAb HNE HS1 HBK1 hb1)
      | (refine bodyPost_ret (results_none rfl _ _ _) rfl ?_; refine ans_end HDR.out (by with_reducible apply st_drewN; with_reducible apply st_alloc; exact st_base HDR.out (Below.refl _ _)) (by rfl) (by rfl) ?_; clear HRK)
    have hnd := HND.out
    clear HDR HND d0 d1 d2 d3 d4 d5 d6 d7 f0 f1 f2 f3 f4 f5 f6 f7
    try dsimp only
    simp_all [ansD, rOk, rAgain, rBusy, rNokey, rNotEmpty]
end Go.Proofs.YtdfijefgklhmdaaDoor.T
