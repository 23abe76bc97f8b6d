import Derived.Deep.DeepCutAuto
import Derived.Laws.OwnMore
import Derived.OwnWalk
import Derived.Lib.AppendStr
import Derived.Lib.SliceRun
import Derived.Lib.SmallJoins
import Derived.IntWalk
import Derived.Lib.ItoaLen
import Derived.Test.YtdfijefgklhmdaaDoorProg
import Derived.Test.YtdfijefgklhmdaaDoorShelf
import Derived.Test.YtdfijefgklhmdaaDoorMem
import Derived.Test.YtdfijefgklhmdaaDoorRw
import Derived.Test.YtdfijefgklhmdaaDoorRt
import Derived.Test.YtdfijefgklhmdaaDoorRs
import Derived.Test.YtdfijefgklhmdaaDoorRq
import Derived.Test.YtdfijefgklhmdaaDoorRr
import Derived.WalkKit
import Derived.Outline
import Derived.WalkLawsBesides
import Derived.Deep.QuietTactic
import Derived.BigQuiet
import Derived.Lib.Hide
import Derived.Handy
import Derived.Deep.RegionHeld3
import Derived.Deep.DrawnRows
import Derived.KernelRfl
import Derived.Great.Walk
import Derived.Test.YtdfijefgklhmdaaDoorOwn
namespace Go.Proofs.YtdfijefgklhmdaaDoor.T
open Go Go.RowKit Go.Sort Mem Own
set_option maxRecDepth 100000
set_option maxHeartbeats 1000000
set_option linter.unusedVariables false
set_option linter.unusedSimpArgs false

theorem ans_stop (g : Nat) (P : Option Addr) (pc : Nat) (Q : Option Addr) (qc : Nat) (D : Dr) (r : Rp) (A : Option Addr) (c : Nat) (w : World) (h : DrRd w g P pc Q qc D) (he : atEnd D) : Calls Tryd.prog 12 #[.pointer (some ⟨g, 0, none⟩), rpV r A c] w (AnsOut g P pc (ansD D r) w) := by
  have HDR := Lib.hid h
  have HE := Lib.hid (show ansD D r = D by unfold ansD; exact if_pos he)
  obtain ⟨d0, d1, d2, d3, d4, d5, d6, d7⟩ := facts8 h.blk
  obtain ⟨f0, f1, f2, f3, f4, f5, f6, f7⟩ := free8 h.blk
  have hg := lt_of_block h.blk
  generalize ansD D r = E at HE ⊢
  obtain ⟨plan, B, T, dn, call, queue, ep, failed⟩ := D
  obtain ⟨k, z, t, ks⟩ := r
  unfold atEnd at he
  dsimp only at d0 d1 d2 d3 d4 d5 d6 d7 he
  clear h
  have hgw : g ≠ w.heap.size := by omega
  have hd : failed = false → ((dn : Int) == (plan.length : Int)) = true := by
    intro hf; rcases he with h | h
    · rw [hf] at h; cases h
    · simp [h]
  cases failed with
  | true =>
    go_enter Tryd.func12, Tryd.ntmps12
    go_wp2
    go_quiet (fail)
    go_wp2
    refine bodyPost_ret (results_none rfl _ _ _) rfl ?_
    exact ans_end HDR.out (by with_reducible apply st_drewN; with_reducible apply st_alloc; exact st_base HDR.out (Below.refl _ _)) (by rfl) (by rfl) HE.out
  | false =>
    have he2 := hd rfl
    go_enter Tryd.func12, Tryd.ntmps12
    go_wp2
    go_quiet (fail)
    go_wp2
    refine bodyPost_ret (results_none rfl _ _ _) rfl ?_
    exact ans_end HDR.out (by with_reducible apply st_drewN; with_reducible apply st_alloc; exact st_base HDR.out (Below.refl _ _)) (by rfl) (by rfl) HE.out
/-- Answer -/
theorem ans_is (g : Nat) (P : Option Addr) (pc : Nat) (Q : Option Addr) (qc : Nat) (D : Dr) (r : Rp) (A : Option Addr) (c : Nat) (w : World) (h : DrRd w g P pc Q qc D) (hok : DrOk D) (hrk : RdK w A r.ks) (hkn : r.ks.length ≤ 8796093022000) : Calls Tryd.prog 12 #[.pointer (some ⟨g, 0, none⟩), rpV r A c] w (AnsOut g P pc (ansD D r) w) := by
  by_cases he : atEnd D
  · exact ans_stop g P pc Q qc D r A c w h he
  have hf : D.failed = false := by cases hf : D.failed; rfl; exact absurd (.inl hf) he
  have hdl : D.dn < D.plan.length := by have := hok.dn; have : ¬ D.dn = D.plan.length := fun e => he (.inr e); omega
  rcases hok.call with hc | hc | hc | ⟨hc, hq⟩ | hc | hc | hc
  · exact ans_0 g P pc Q qc D r A c w h hf hdl hok.len hc
  · exact ans_1 g P pc Q qc D r A c w h hf hdl hok.len hc
  · exact ans_2 g P pc Q qc D r A c w h hf hdl hok.len hc hrk hkn
  · exact ans_3 g P pc Q qc D r A c w h hf hdl hok.len hc hq
  · exact ans_4 g P pc Q qc D r A c w h hf hdl hok.len hc
  · exact ans_5 g P pc Q qc D r A c w h hf hdl hok.len hc
  · rw [hf] at hc; cases hc
theorem ansD_ok {D : Dr} {r : Rp} (h : DrOk D) (hz : -9223372036854775808 ≤ r.z ∧ r.z ≤ 9223372036854775807) : DrOk (ansD D r) := by
  unfold ansD
  split
  · exact h
  rename_i he
  split
  · exact h
  split
  · exact ⟨h.len, h.ok, h.bt, h.dn, .inr (.inl rfl), h.ep⟩
  split
  · exact ⟨h.len, h.ok, h.bt, h.dn, .inr (.inr (.inl rfl)), h.ep⟩
  split
  · refine ⟨h.len, h.ok, h.bt, h.dn, ?_, h.ep⟩
    by_cases ht : (told r).1 = []
    · right; right; right; right; left; exact if_pos ht
    · right; right; right; left; exact ⟨if_neg ht, ht⟩
  split
  · refine ⟨h.len, h.ok, h.bt, h.dn, ?_, h.ep⟩
    by_cases ht : D.queue.tail = []
    · right; right; left; exact if_pos ht
    · right; right; right; left; exact ⟨if_neg ht, ht⟩
  split
  · split
    · exact ⟨h.len, h.ok, h.bt, h.dn, .inr (.inr (.inl rfl)), hz⟩
    · exact ⟨h.len, h.ok, h.bt, h.dn, .inr (.inr (.inr (.inr (.inr (.inl rfl))))), hz⟩
  · refine ⟨h.len, h.ok, h.bt, ?_, .inl rfl, h.ep⟩
    have := h.dn
    have : ¬ D.dn = D.plan.length := fun e => he (.inr e)
    dsimp only
    split <;> omega
theorem ansD_plan (D : Dr) (r : Rp) : (ansD D r).plan = D.plan ∧ (ansD D r).B = D.B ∧ (ansD D r).T = D.T := by
  unfold ansD
  repeat' split
  all_goals exact ⟨rfl, rfl, rfl⟩
/-- Told to wait, a driver that does not migrate stays as it is. -/
theorem ansD_wait {D : Dr} {r : Rp} (h : atEnd D ∨ D.call ≠ 3) (hr : (rAgain r || rBusy r) = true) : ansD D r = D := by
  unfold ansD
  split
  · rfl
  rename_i he
  rw [if_pos]
  exact ⟨h.resolve_left he, hr⟩
end Go.Proofs.YtdfijefgklhmdaaDoor.T
