import Derived.Deep.DeepCutAuto
import Derived.Laws.OwnMore
import Derived.OwnWalk
import Derived.Lib.AppendStr
import Derived.Lib.SliceRun
import Derived.Lib.SmallJoins
import Derived.IntWalk
import Derived.Lib.ItoaLen
import Derived.Deep.AppendLies
import Derived.Test.YtdfijefgklhmdaaDoorProg
import Derived.Test.YtdfijefgklhmdaaDoorShelf
import Derived.Test.YtdfijefgklhmdaaDoorMem
import Derived.Deep.RegionLaw
import Derived.Test.YtdfijefgklhmdaaDoorSi
import Derived.WalkKit
import Derived.Outline
import Derived.WalkLawsBesides
import Derived.Deep.QuietTactic
import Derived.BigQuiet
import Derived.Lib.Hide
import Derived.Handy
import Derived.Deep.RegionHeld3
import Derived.Deep.DrawnRows
import Derived.KernelRfl
import Derived.Great.Walk
import Derived.Test.YtdfijefgklhmdaaDoorOwn
namespace Go.Proofs.YtdfijefgklhmdaaDoor.T
open Go Go.RowKit Go.Sort Mem Own
set_option maxRecDepth 100000
set_option maxHeartbeats 1000000
set_option linter.unusedVariables false
set_option linter.unusedSimpArgs false

theorem ansD_on {D : Dr} {r : Rp} (he : ¬ atEnd D) (hw : ¬ (¬ D.call = 3 ∧ (rAgain r || rBusy r) = true)) :
    ansD D r = if D.call = 0 then ⟨D.plan, D.B, D.T, D.dn, 1, D.queue, D.ep, !rOk r⟩
      else if D.call = 1 then ⟨D.plan, D.B, D.T, D.dn, 2, D.queue, D.ep, !rOk r⟩
      else if D.call = 2 then ⟨D.plan, D.B, D.T, D.dn, if (told r).1 = [] then 4 else 3, (told r).1, D.ep, !(told r).2⟩
      else if D.call = 3 then ⟨D.plan, D.B, D.T, D.dn, if D.queue.tail = [] then 2 else 3, D.queue.tail, D.ep, !(rOk r || rAgain r || rNokey r)⟩
      else if D.call = 4 then (if rNotEmpty r = true then ⟨D.plan, D.B, D.T, D.dn, 2, D.queue, r.z, false⟩ else ⟨D.plan, D.B, D.T, D.dn, 5, D.queue, r.z, !((r.k == 3) && decide (0 ≤ r.z))⟩)
      else ⟨D.plan, D.B, D.T, if rOk r = true then D.dn + 1 else D.dn, 0, D.queue, D.ep, !rOk r⟩ := by
  unfold ansD
  have he' : ¬ (D.failed = true ∨ D.dn = D.plan.length) := he
  rw [if_neg he', if_neg hw]
/-- What an answer to the document's driver leaves, beside the program's. -/
def RAns (D : Dr) (r : Rp) (R : Rv) (A : Option Addr) (w : World) (e : Ending) (w' : World) : Prop :=
  ∃ (R' : Rv) (A' : Option Addr) (c' : Nat) (Q' : Option Addr) (qc' : Nat), e = .returned (rvV R' A' c' Q' qc') ∧ Sim (ansD D r) R' ∧ (∀ w0, RdM w0 A R.plan → RdM w0 A' R'.plan) ∧ R'.plan.length ≤ c' ∧ Rd w' Q' R'.queue ∧ R'.queue.length ≤ qc' ∧ Below w.heap.size w w'
theorem rans_sim {D : Dr} {R : Rv} {A : Option Addr} {c : Nat} {Q : Option Addr} {qc : Nat} {r : Rp} {Ar : Option Addr} {cr : Nat} {w : World} (hok : DrOk D) (hs : Sim D R) (hc : R.plan.length ≤ c) (ha : RdM w A R.plan) (hq : Rd w Q R.queue) (hqc : R.queue.length ≤ qc) (hdq : D.queue.length ≤ 8796093022000) (hr : RdK w Ar r.ks) (hn : r.ks.length ≤ 8796093022000) :
    Calls Tryd.prog 15 #[rvV R A c Q qc, rpV r Ar cr] w (RAns D r R A w) := by
  have hN := fun wx (hb : Below w.heap.size w wx) => rnext_sim (c := c) (qc := qc) hok hs (ha.below hb) (hq.below hb)
  have hs' := hs
  obtain ⟨l, B, T, call, q, ep, fl⟩ := R
  dsimp only at hN hc ha hq hqc
  by_cases he : fl = true ∨ l.length = 0
  · have hat : atEnd D := by
      rcases he with h | h
      · left; have := hs.failed; dsimp only at this; rw [← this]; exact h
      · right; have := hs.plan; dsimp only at this; rw [this, List.length_drop] at h; have := hok.dn; omega
    have heq : ansD D r = D := by unfold ansD; exact if_pos hat
    refine Calls.mono (rans_end A l.length c B T Q q.length qc ep r.k r.z r.t Ar r.ks.length cr 0 [] w call fl (fun wx hb => by have := hN wx hb; rw [if_pos he] at this; exact this)) ?_
    rintro e w' ⟨rfl, hb⟩
    exact ⟨⟨l, B, T, call, q, ep, fl⟩, A, c, Q, qc, rfl, by rw [heq]; exact hs', fun _ h => h, hc, hq.below hb, hqc, hb⟩
  · have hf : fl = false := by cases fl with | false => rfl | true => exact absurd (.inl rfl) he
    have hlen : l.length = D.plan.length - D.dn := by have := hs.plan; dsimp only at this; rw [this, List.length_drop]
    have hat : ¬ atEnd D := by
      rintro (h | h)
      · have := hs.failed; dsimp only at this; rw [h] at this; rw [this] at hf; cases hf
      · apply he; right; omega
    have hN' := fun wx (hb : Below w.heap.size w wx) => (by have := hN wx hb; rw [if_neg he] at this; exact this : Calls Tryd.prog 23 #[rvV ⟨l, B, T, call, q, ep, fl⟩ A c Q qc] wx (NextOut (nextN D) (nextL D) true wx))
    clear hN
    obtain ⟨h1, h2, h3, h4, h5⟩ := hs.on hat
    have hp := hs.plan
    have hff : D.failed = false := by have := hs.failed; dsimp only at this; rw [← this]; exact hf
    dsimp only at h1 h2 h3 h4 h5 hp
    have hdl : D.dn < D.plan.length := by have := hok.dn; have : ¬ D.dn = D.plan.length := fun e => hat (.inr e); omega
    have hbt := hok.bt
    have hl1 := hok.len
    subst hf
    rcases hok.call with hcl | hcl | hcl | ⟨hcl, hqn⟩ | hcl | hcl | hcl
    · obtain rfl : call = 1 := by omega
      refine Calls.mono (rans_1 A l.length c B T Q q.length qc ep r.k r.z r.t Ar r.ks.length cr _ _ w hN' (rOk r) (rBusy r) (rAgain r) (isO r) (isBz r) (isA r)) ?_
      rintro e w' ⟨⟨v, rfl, h⟩, hb⟩
      rcases h with ⟨hw, rfl⟩ | ⟨hw, ho, X, -, rfl⟩ | ⟨hw, ho, rfl⟩
      · exact ⟨⟨l, B, T, 1, q, ep, false⟩, A, c, Q, qc, rfl, by rw [ansD_wait (.inr (by omega)) (by rw [Bool.or_comm]; exact hw)]; exact hs', fun _ h => h, hc, hq.below hb, hqc, hb⟩
      all_goals
        have hD := ansD_on hat (r := r) (by rw [Bool.or_comm, hw]; simp)
        rw [if_pos hcl, ho] at hD
      · exact ⟨⟨l, B, T, 2, q, ep, false⟩, A, c, Q, qc, rfl, by rw [hD]; exact ⟨rfl, hp, fun _ => ⟨h1, h2, rfl, by simp, by simp⟩⟩, fun _ h => h, hc, hq.below hb, hqc, hb⟩
      · exact ⟨⟨l, B, T, 1, q, ep, true⟩, A, c, Q, qc, rfl, by rw [hD]; exact ⟨rfl, hp, fun h => absurd (.inl rfl) h⟩, fun _ h => h, hc, hq.below hb, hqc, hb⟩
    · obtain rfl : call = 2 := by omega
      refine Calls.mono (rans_2 A l.length c B T Q q.length qc ep r.k r.z r.t Ar r.ks.length cr _ _ w hN' (rOk r) (rBusy r) (rAgain r) (isO r) (isBz r) (isA r)) ?_
      rintro e w' ⟨⟨v, rfl, h⟩, hb⟩
      rcases h with ⟨hw, rfl⟩ | ⟨hw, ho, X, -, rfl⟩ | ⟨hw, ho, rfl⟩
      · exact ⟨⟨l, B, T, 2, q, ep, false⟩, A, c, Q, qc, rfl, by rw [ansD_wait (.inr (by omega)) (by rw [Bool.or_comm]; exact hw)]; exact hs', fun _ h => h, hc, hq.below hb, hqc, hb⟩
      all_goals
        have hD := ansD_on hat (r := r) (by rw [Bool.or_comm, hw]; simp)
        rw [if_neg (by omega), if_pos hcl, ho] at hD
      · exact ⟨⟨l, B, T, 3, q, ep, false⟩, A, c, Q, qc, rfl, by rw [hD]; exact ⟨rfl, hp, fun _ => ⟨h1, h2, rfl, by simp, by simp⟩⟩, fun _ h => h, hc, hq.below hb, hqc, hb⟩
      · exact ⟨⟨l, B, T, 2, q, ep, true⟩, A, c, Q, qc, rfl, by rw [hD]; exact ⟨rfl, hp, fun h => absurd (.inl rfl) h⟩, fun _ h => h, hc, hq.below hb, hqc, hb⟩
    · obtain rfl : call = 3 := by omega
      refine Calls.mono (rans_3 A l.length c B T Q q.length qc ep r.k r.z r.t Ar r.ks.length cr _ _ w hN' (rOk r) (rBusy r) (rAgain r) (isO r) (isBz r) (isA r) ⟨l, B, T, 3, q, ep, false⟩ r (fun wx hb => rkeys_is ⟨l, B, T, 3, q, ep, false⟩ A c Q qc r Ar cr wx (hr.below hb) hn (hq.below hb) hqc)) ?_
      rintro e w' (⟨hw, rfl, hb⟩ | ⟨hw, R', Q', qc', rfl, k1, k2, k3, k4, hb⟩)
      · exact ⟨⟨l, B, T, 3, q, ep, false⟩, A, c, Q, qc, rfl, by rw [ansD_wait (.inr (by omega)) (by rw [Bool.or_comm]; exact hw)]; exact hs', fun _ h => h, hc, hq.below hb, hqc, hb⟩
      · have hD := ansD_on hat (r := r) (by rw [Bool.or_comm, hw]; simp)
        rw [if_neg (by omega), if_neg (by omega), if_pos hcl] at hD
        dsimp only at k1
        rcases k4 with ⟨ht, hfl⟩ | ⟨ht, rfl⟩
        · exact ⟨R', A, c, Q', qc', rfl, by rw [hD, ht]; exact ⟨hfl, by rw [k1]; exact hp, fun h => absurd (.inl rfl) h⟩, fun _ h => by rw [k1]; exact h, by rw [k1]; exact hc, k2, k3, hb⟩
        · refine ⟨_, A, c, Q', qc', rfl, ?_, fun _ h => h, hc, k2, k3, hb⟩
          rw [hD, ht]
          refine ⟨rfl, hp, fun _ => ⟨h1, h2, ?_, fun _ => rfl, fun h => ?_⟩⟩
          · dsimp only; by_cases h : (told r).1 = [] <;> simp [h]
          · dsimp only at h; by_cases hh : (told r).1 = [] <;> simp [hh] at h
    · obtain rfl : call = 4 := by omega
      have hqq := h4 hcl
      obtain ⟨x, l', hxl⟩ : ∃ x l', q = x :: l' := by rw [hqq]; cases h : D.queue with | nil => exact absurd h hqn | cons x l' => exact ⟨x, l', rfl⟩
      have hDq : D.queue = x :: l' := by rw [← hqq]; exact hxl
      subst hxl
      obtain ⟨qb, qo, rfl⟩ := hq.addr (by simp)
      have hw3 : ¬ (¬ D.call = 3 ∧ (rAgain r || rBusy r) = true) := fun h => h.1 hcl
      refine Calls.mono (rans_4 A l.length c B T qb qo l'.length qc ep r.k r.z r.t Ar r.ks.length cr _ _ w hN' (rOk r) (rAgain r) (rNokey r) (isO r) (isA r) (isK r) (by simpa using hqc) (by rw [hDq] at hdq; simp only [List.length_cons] at hdq; unfold maxLen; omega) (if l' = [] then 3 else 4) ⟨fun h => if_pos (List.eq_nil_of_length_eq_zero h), fun h => if_neg (fun e => h (by rw [e]; rfl))⟩) ?_
      rintro e w' ⟨⟨v, rfl, h⟩, hb⟩
      have hD := ansD_on hat hw3
      rw [if_neg (by omega), if_neg (by omega), if_neg (by omega), if_pos hcl, hDq] at hD
      rcases h with ⟨hw, rfl⟩ | ⟨hw, ho, X, hX, rfl⟩ | ⟨hw, ho, rfl⟩
      · cases hw
      · have ho2 : (rOk r || rAgain r || rNokey r) = true := by rw [← ho]; cases rOk r <;> cases rAgain r <;> cases rNokey r <;> rfl
        rw [ho2] at hD
        refine ⟨⟨l, B, T, if l' = [] then 3 else 4, l', ep, false⟩, A, c, X, qc - 1, rfl, ?_, fun _ h => h, hc, (Rd.tail hq hX).below hb, by simp only [List.length_cons] at hqc; show l'.length ≤ qc - 1; omega, hb⟩
        rw [hD]
        refine ⟨rfl, hp, fun _ => ⟨h1, h2, ?_, fun _ => rfl, fun h => ?_⟩⟩
        · dsimp only [List.tail_cons]; by_cases h : l' = [] <;> simp [h]
        · dsimp only [List.tail_cons] at h; by_cases hh : l' = [] <;> simp [hh] at h
      · have ho2 : (rOk r || rAgain r || rNokey r) = false := by rw [← ho]; cases rOk r <;> cases rAgain r <;> cases rNokey r <;> rfl
        rw [ho2] at hD
        exact ⟨⟨l, B, T, 4, x :: l', ep, true⟩, A, c, _, qc, rfl, by rw [hD]; exact ⟨rfl, hp, fun h => absurd (.inl rfl) h⟩, fun _ h => h, hc, hq.below hb, hqc, hb⟩
    · obtain rfl : call = 5 := by omega
      refine Calls.mono (rans_5 A l.length c B T Q q.length qc ep r.k r.z r.t Ar r.ks.length cr _ _ w hN' (rOk r) (rBusy r) (rAgain r) (rNotEmpty r) _ (isO r) (isBz r) (isA r) (isN r) rfl) ?_
      rintro e w' ⟨⟨v, rfl, h⟩, hb⟩
      rcases h with ⟨hw, rfl⟩ | ⟨hw, hne, rfl⟩ | ⟨hw, hne, ho, rfl⟩ | ⟨hw, hne, ho, rfl⟩
      · exact ⟨⟨l, B, T, 5, q, ep, false⟩, A, c, Q, qc, rfl, by rw [ansD_wait (.inr (by omega)) (by rw [Bool.or_comm]; exact hw)]; exact hs', fun _ h => h, hc, hq.below hb, hqc, hb⟩
      all_goals
        have hD := ansD_on hat (r := r) (by rw [Bool.or_comm, hw]; simp)
        rw [if_neg (by omega), if_neg (by omega), if_neg (by omega), if_neg (by omega), if_pos hcl, hne] at hD
      · rw [if_pos rfl] at hD
        exact ⟨⟨l, B, T, 3, q, ep, false⟩, A, c, Q, qc, rfl, by rw [hD]; exact ⟨rfl, hp, fun _ => ⟨h1, h2, rfl, by simp, by simp⟩⟩, fun _ h => h, hc, hq.below hb, hqc, hb⟩
      · rw [if_neg (by simp), ho] at hD
        exact ⟨⟨l, B, T, 6, q, r.z, false⟩, A, c, Q, qc, rfl, by rw [hD]; exact ⟨rfl, hp, fun _ => ⟨h1, h2, rfl, by simp, fun _ => rfl⟩⟩, fun _ h => h, hc, hq.below hb, hqc, hb⟩
      · rw [if_neg (by simp), ho] at hD
        exact ⟨⟨l, B, T, 5, q, ep, true⟩, A, c, Q, qc, rfl, by rw [hD]; exact ⟨rfl, hp, fun h => absurd (.inl rfl) h⟩, fun _ h => h, hc, hq.below hb, hqc, hb⟩
    · obtain rfl : call = 6 := by omega
      obtain ⟨m, l', hml⟩ : ∃ m l', l = m :: l' := by cases l with | nil => exact absurd (.inr rfl) he | cons m l' => exact ⟨m, l', rfl⟩
      subst hml
      obtain ⟨ab, ao, rfl⟩ := ha.addr (by simp)
      simp only [List.length_cons] at hlen
      refine Calls.mono (rans_6 ab ao l'.length c B T Q q.length qc ep r.k r.z r.t Ar r.ks.length cr _ _ w hN' (rOk r) (rBusy r) (rAgain r) (isO r) (isBz r) (isA r) (by omega) (by omega) (by simpa using hc) (by omega)) ?_
      rintro e w' ⟨⟨v, rfl, h⟩, hb⟩
      rcases h with ⟨hw, rfl⟩ | ⟨hw, ho, X, hX, rfl⟩ | ⟨hw, ho, rfl⟩
      · exact ⟨⟨m :: l', B, T, 6, q, ep, false⟩, _, c, Q, qc, rfl, by rw [ansD_wait (.inr (by omega)) (by rw [Bool.or_comm]; exact hw)]; exact hs', fun _ h => h, hc, hq.below hb, hqc, hb⟩
      all_goals
        have hD := ansD_on hat (r := r) (by rw [Bool.or_comm, hw]; simp)
        rw [if_neg (by omega), if_neg (by omega), if_neg (by omega), if_neg (by omega), if_neg (by omega), ho] at hD
      · rw [if_pos rfl] at hD
        refine ⟨⟨l', B, T + 1, 1, q, ep, false⟩, X, c - 1, Q, qc, rfl, ?_, fun _ h => RdM.tail h hX, by simp only [List.length_cons] at hc; show l'.length ≤ c - 1; omega, hq.below hb, hqc, hb⟩
        rw [hD]
        refine ⟨rfl, ?_, fun _ => ⟨h1, ?_, rfl, by simp, by simp⟩⟩
        · show l' = D.plan.drop (D.dn + 1)
          rw [← List.drop_drop, ← hp]; rfl
        · show T + 1 = D.T + ((D.dn + 1 : Nat) : Int); omega
      · rw [if_neg (by simp)] at hD
        exact ⟨⟨m :: l', B, T, 6, q, ep, true⟩, _, c, Q, qc, rfl, by rw [hD]; exact ⟨rfl, hp, fun h => absurd (.inl rfl) h⟩, fun _ h => h, hc, hq.below hb, hqc, hb⟩
    · rw [hff] at hcl; cases hcl
end Go.Proofs.YtdfijefgklhmdaaDoor.T
