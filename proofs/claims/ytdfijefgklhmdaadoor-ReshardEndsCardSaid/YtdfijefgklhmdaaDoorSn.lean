import Derived.Deep.DeepCutAuto
import Derived.Laws.OwnMore
import Derived.OwnWalk
import Derived.Lib.AppendStr
import Derived.Lib.SliceRun
import Derived.Lib.SmallJoins
import Derived.IntWalk
import Derived.Lib.ItoaLen
import Derived.Deep.AppendLies
import Derived.Test.YtdfijefgklhmdaaDoorProg
import Derived.Test.YtdfijefgklhmdaaDoorShelf
import Derived.Test.YtdfijefgklhmdaaDoorMem
import Derived.Deep.RegionLaw
import Derived.Test.YtdfijefgklhmdaaDoorSm
import Derived.WalkKit
import Derived.Outline
import Derived.WalkLawsBesides
import Derived.Deep.QuietTactic
import Derived.BigQuiet
import Derived.Lib.Hide
import Derived.Handy
import Derived.Deep.RegionHeld3
import Derived.Deep.DrawnRows
import Derived.KernelRfl
import Derived.Great.Walk
import Derived.Test.YtdfijefgklhmdaaDoorOwn
namespace Go.Proofs.YtdfijefgklhmdaaDoor.T
open Go Go.RowKit Go.Sort Mem Own
set_option maxRecDepth 100000
set_option maxHeartbeats 1000000
set_option linter.unusedVariables false
set_option linter.unusedSimpArgs false

/-- What a node answers that does what it must. -/
def ansR (D : Dr) (K : List ByteArray) : Rp := if D.call = 2 then ⟨6, 0, ⟨#[]⟩, (K.take D.B.toNat).map (fun t => (4, t))⟩ else if D.call = 4 then ⟨3, 5, ⟨#[]⟩, []⟩ else ⟨1, 0, ⟨#[79, 75]⟩, []⟩
def leftK (D : Dr) (K : List ByteArray) : List ByteArray := if D.call = 3 then nots (D.queue.headD ⟨#[]⟩) K else K
theorem SET_keys : (SETSLOT.toList == [75, 69, 89, 83]) = false := by decide +kernel
theorem SET_mig : (SETSLOT.toList == [77, 73, 71, 82, 65, 84, 69]) = false := by decide +kernel
theorem tells_any {D : Dr} {K : List ByteArray} {AL : Option Addr} {cl : Nat} {AK : Option Addr} {ck : Nat} {w : World} (hok : DrOk D) (he : ¬ atEnd D) (hL : Rd w AL (nextL D)) (hK : Rd w AK K) (hKC : K.length ≤ ck) (hKn : K.length ≤ 60) :
    Calls Tryd.prog 17 #[.slice AL (nextL D).length cl, .slice AK K.length ck, .int .i64 D.B] w (TellsOut (ansR D K) (leftK D K) w) := by
  obtain ⟨c0, c1, c2, c3, c4, c5⟩ := next_cases D (nextM D) rfl
  have hbt := hok.bt
  have cells : ∀ {x0 x1 x2 : ByteArray} {l : List ByteArray}, nextL D = x0 :: x1 :: x2 :: l → ∃ b o, AL = some ⟨b, o, none⟩ ∧ w.cell? ⟨b, o, none⟩ = some (.string x0) ∧ w.cell? ⟨b, o + 2, none⟩ = some (.string x2) ∧ 2 < (nextL D).length := by
    intro x0 x1 x2 l h
    rw [h] at hL
    obtain ⟨b, o, rfl⟩ := hL.addr (by simp)
    have q0 := hL.cell (show 0 < (x0 :: x1 :: x2 :: l).length by simp)
    have q2 := hL.cell (show 2 < (x0 :: x1 :: x2 :: l).length by simp)
    exact ⟨b, o, rfl, by simpa using q0, by simpa using q2, by rw [h]; simp⟩
  rcases hok.call with hc | hc | hc | ⟨hc, hqn⟩ | hc | hc | hc
  · obtain ⟨b, o, rfl, q0, q2, hn⟩ := cells (c0 hc).2
    rw [show ansR D K = ⟨1, 0, ⟨#[79, 75]⟩, []⟩ by unfold ansR; rw [if_neg (by omega), if_neg (by omega)], show leftK D K = K by unfold leftK; rw [if_neg (by omega)]]
    exact tells_fine b o _ cl K AK ck D.B w _ _ q0 q2 hn SET_keys SET_mig (by decide +kernel) hK hKC
  · obtain ⟨b, o, rfl, q0, q2, hn⟩ := cells (c1 hc).2
    rw [show ansR D K = ⟨1, 0, ⟨#[79, 75]⟩, []⟩ by unfold ansR; rw [if_neg (by omega), if_neg (by omega)], show leftK D K = K by unfold leftK; rw [if_neg (by omega)]]
    exact tells_fine b o _ cl K AK ck D.B w _ _ q0 q2 hn SET_keys SET_mig (by decide +kernel) hK hKC
  · obtain ⟨b, o, rfl, q0, q2, hn⟩ := cells (c2 hc).2
    rw [show ansR D K = ⟨6, 0, ⟨#[]⟩, (K.take D.B.toNat).map (fun t => (4, t))⟩ by unfold ansR; rw [if_pos hc], show leftK D K = K by unfold leftK; rw [if_neg (by omega)]]
    exact tells_keys b o _ cl K AK ck D.B w _ q0 (by omega) (by decide +kernel) hK hKC hKn ⟨hbt.1, hbt.2.1⟩
  · obtain ⟨b, o, rfl, q0, q2, hn⟩ := cells (c3 hc).2
    rw [show ansR D K = ⟨1, 0, ⟨#[79, 75]⟩, []⟩ by unfold ansR; rw [if_neg (by omega), if_neg (by omega)], show leftK D K = nots (D.queue.headD ⟨#[]⟩) K by unfold leftK; rw [if_pos hc]]
    exact tells_mig b o _ cl K AK ck D.B w _ _ q0 q2 hn (by decide +kernel) hK hKn
  · obtain ⟨b, o, rfl, q0, q2, hn⟩ := cells (c4 hc).2
    rw [show ansR D K = ⟨3, 5, ⟨#[]⟩, []⟩ by unfold ansR; rw [if_neg (by omega), if_pos hc], show leftK D K = K by unfold leftK; rw [if_neg (by omega)]]
    exact tells_node b o _ cl K AK ck D.B w _ _ q0 q2 hn SET_keys SET_mig (by decide +kernel) hK hKC
  · obtain ⟨b, o, rfl, q0, q2, hn⟩ := cells (c5 hc).2
    rw [show ansR D K = ⟨1, 0, ⟨#[79, 75]⟩, []⟩ by unfold ansR; rw [if_neg (by omega), if_neg (by omega)], show leftK D K = K by unfold leftK; rw [if_neg (by omega)]]
    exact tells_fine b o _ cl K AK ck D.B w _ _ q0 q2 hn SET_keys SET_mig (by decide +kernel) hK hKC
  · exact absurd (.inl hc) he
/-- How often keys are told. -/
def cl (B k : Nat) : Nat := (k + B - 1) / B
theorem cl_zero {B : Nat} (h : 1 ≤ B) : cl B 0 = 0 := by unfold cl; exact Nat.div_eq_of_lt (by omega)
theorem cl_le {B k : Nat} (h : 1 ≤ B) : cl B k ≤ k / B + 1 := by
  unfold cl
  calc (k + B - 1) / B ≤ (k + B) / B := Nat.div_le_div_right (by omega)
    _ = k / B + 1 := Nat.add_div_right k (by omega)
theorem cl_step {B k : Nat} (h : 1 ≤ B) (hk : 0 < k) : cl B (k - min k B) + 1 ≤ cl B k := by
  unfold cl
  by_cases hkb : k ≤ B
  · rw [Nat.min_eq_left hkb, Nat.sub_self, Nat.div_eq_of_lt (show 0 + B - 1 < B by omega)]
    exact Nat.succ_le_of_lt (Nat.div_pos (by omega) (by omega))
  · rw [Nat.min_eq_right (by omega), ← Nat.add_div_right _ (show 0 < B by omega)]
    exact Nat.div_le_div_right (by omega)
/-- The sum of what the moves from j on take. -/
def sm (f : Nat → Nat) (M j : Nat) : Nat := (((List.range M).drop j).map f).sum
theorem sm_end (f : Nat → Nat) {M j : Nat} (h : M ≤ j) : sm f M j = 0 := by unfold sm; rw [List.drop_eq_nil_of_le (by simpa using h)]; rfl
theorem sm_step (f : Nat → Nat) {M j : Nat} (h : j < M) : sm f M j = f j + sm f M (j + 1) := by
  unfold sm; rw [List.drop_eq_getElem_cons (by simpa using h)]; simp
theorem sm_le {f g : Nat → Nat} (h : ∀ i, f i ≤ g i) (M j : Nat) : sm f M j ≤ sm g M j := by
  unfold sm
  generalize (List.range M).drop j = l
  induction l with
  | nil => exact Nat.le_refl _
  | cons a l ih => simp only [List.map_cons, List.sum_cons]; have := h a; omega
/-- What a move with so many keys takes. -/
def mvc (B n : Nat) : Nat := 5 + n + cl B n
/-- How many calls are left at most. -/
def cost (F : Nat → Nat) (M B : Nat) (D : Dr) (K : List ByteArray) : Nat :=
  (if M ≤ D.dn then 0 else if D.call = 0 then mvc B (F D.dn) else if D.call = 1 then 4 + K.length + cl B K.length else if D.call = 2 then 3 + K.length + cl B K.length else if D.call = 3 then 3 + K.length + cl B (K.length - D.queue.length) else if D.call = 4 then 2 else 1) + sm (fun m => mvc B (F m)) M (D.dn + 1)
/-- What is so of a driver with nodes that do what they must, once the keys are laid for the move. -/
structure Ph (F : Nat → Nat) (D : Dr) (K : List ByteArray) : Prop where
  nf : D.failed = false
  kl : K.length ≤ 60
  nd : K.Nodup
  ph : (D.call = 0 ∧ K.length = F D.dn) ∨ D.call = 1 ∨ D.call = 2 ∨ (D.call = 3 ∧ ∃ q, 1 ≤ q ∧ q ≤ K.length ∧ D.queue = K.take q) ∨ D.call = 4 ∨ D.call = 5
theorem nots_head {x : ByteArray} {K : List ByteArray} (h : (x :: K).Nodup) : nots x (x :: K) = K := by
  unfold nots
  rw [List.filter_cons]
  simp only [beq_self_eq_true, Bool.not_true, Bool.false_eq_true, if_false]
  rw [List.filter_eq_self]
  intro a ha
  have : ¬ a = x := fun e => by subst e; exact (List.nodup_cons.1 h).1 ha
  have : ¬ a.toList = x.toList := fun e => this (ba_inj e)
  simp [this]
theorem map_fst4 (l : List ByteArray) : (l.map (fun t => ((4 : Int), t))).map (fun x => x.2) = l := by
  induction l with
  | nil => rfl
  | cons a l ih => simp only [List.map_cons, ih]
theorem told_keys (l : List ByteArray) : told ⟨6, 0, ⟨#[]⟩, l.map (fun t => (4, t))⟩ = (l, true) := by
  rw [told_good (by intro x hx; obtain ⟨t, _, rfl⟩ := List.mem_map.1 hx; rfl)]
  simp only [map_fst4]
  rfl
theorem ans_flags : rOk ⟨1, 0, ⟨#[79, 75]⟩, []⟩ = true ∧ (rAgain ⟨1, 0, ⟨#[79, 75]⟩, []⟩ || rBusy ⟨1, 0, ⟨#[79, 75]⟩, []⟩) = false := by decide +kernel
theorem ans_flags5 : rNotEmpty ⟨3, 5, ⟨#[]⟩, []⟩ = false ∧ (rAgain ⟨3, 5, ⟨#[]⟩, []⟩ || rBusy ⟨3, 5, ⟨#[]⟩, []⟩) = false := by decide +kernel
theorem ans_flags6 (l : List (Int × ByteArray)) : (rAgain ⟨6, 0, ⟨#[]⟩, l⟩ || rBusy ⟨6, 0, ⟨#[]⟩, l⟩) = false := rfl
theorem ph_step {F : Nat → Nat} {D : Dr} {K : List ByteArray} (hok : DrOk D) (he : ¬ atEnd D) (h : Ph F D K) :
    (leftK D K).Nodup ∧ (leftK D K).length ≤ 60 ∧ (ansD D (ansR D K)).failed = false ∧
    cost F D.plan.length D.B.toNat (ansD D (ansR D K)) (leftK D K) + 1 ≤ cost F D.plan.length D.B.toNat D K ∧
    (((ansD D (ansR D K)).dn = D.dn ∧ (ansD D (ansR D K)).call ≠ 0 ∧ Ph F (ansD D (ansR D K)) (leftK D K)) ∨ ((ansD D (ansR D K)).call = 0 ∧ (ansD D (ansR D K)).dn = D.dn + 1)) := by
  have hdl : D.dn < D.plan.length := by have := hok.dn; have : ¬ D.dn = D.plan.length := fun e => he (.inr e); omega
  have hbt := hok.bt
  have hB : 1 ≤ D.B.toNat := by omega
  have hM : ¬ D.plan.length ≤ D.dn := by omega
  generalize hBn : D.B.toNat = B at hB
  rcases h.ph with ⟨hc, hk⟩ | hc | hc | ⟨hc, q, hq1, hq2, hqe⟩ | hc | hc
  · have hr : ansR D K = ⟨1, 0, ⟨#[79, 75]⟩, []⟩ := by unfold ansR; rw [if_neg (by omega), if_neg (by omega)]
    have hl : leftK D K = K := by unfold leftK; rw [if_neg (by omega)]
    have hD := ansD_on he (r := ansR D K) (by rw [hr, ans_flags.2]; simp)
    rw [if_pos hc, hr, ans_flags.1] at hD
    rw [hl, hr, hD]
    refine ⟨h.nd, h.kl, rfl, ?_, .inl ⟨rfl, by simp, ⟨rfl, h.kl, h.nd, .inr (.inl rfl)⟩⟩⟩
    simp only [cost, hM, if_false, hc, if_true]
    rw [← hk]
    simp [mvc]; omega
  · have hr : ansR D K = ⟨1, 0, ⟨#[79, 75]⟩, []⟩ := by unfold ansR; rw [if_neg (by omega), if_neg (by omega)]
    have hl : leftK D K = K := by unfold leftK; rw [if_neg (by omega)]
    have hD := ansD_on he (r := ansR D K) (by rw [hr, ans_flags.2]; simp)
    rw [if_neg (by omega), if_pos hc, hr, ans_flags.1] at hD
    rw [hl, hr, hD]
    refine ⟨h.nd, h.kl, rfl, ?_, .inl ⟨rfl, by simp, ⟨rfl, h.kl, h.nd, .inr (.inr (.inl rfl))⟩⟩⟩
    simp only [cost, hM, if_false, hc, if_true]
    simp; omega
  · have hr : ansR D K = ⟨6, 0, ⟨#[]⟩, (K.take B).map (fun t => (4, t))⟩ := by unfold ansR; rw [if_pos hc, hBn]
    have hl : leftK D K = K := by unfold leftK; rw [if_neg (by omega)]
    have hD := ansD_on he (r := ansR D K) (by rw [hr, ans_flags6]; simp)
    rw [if_neg (by omega), if_neg (by omega), if_pos hc, hr, told_keys] at hD
    rw [hl, hr, hD]
    by_cases hK0 : K = []
    · subst hK0
      refine ⟨h.nd, h.kl, rfl, ?_, .inl ⟨rfl, by simp, ⟨rfl, h.kl, h.nd, .inr (.inr (.inr (.inr (.inl (by simp)))))⟩⟩⟩
      simp only [cost, hM, if_false, hc, if_true]
      simp [cl_zero hB]; omega
    · have hne : ¬ K.take B = [] := by
        intro e
        rcases List.take_eq_nil_iff.1 e with h | h
        · omega
        · exact hK0 h
      have hlp : 0 < K.length := List.length_pos_iff.2 hK0
      refine ⟨h.nd, h.kl, rfl, ?_, .inl ⟨rfl, by simp [hne], ⟨rfl, h.kl, h.nd, .inr (.inr (.inr (.inl ⟨by simp [hne], min K.length B, by omega, by omega, ?_⟩)))⟩⟩⟩
      · simp only [cost, hM, if_false, hc, if_true]
        have := cl_step hB hlp
        rw [Nat.min_comm] at this
        simp [hne]; omega
      · show K.take B = K.take (min K.length B)
        by_cases hkb : K.length ≤ B
        · rw [Nat.min_eq_left hkb, List.take_of_length_le hkb, List.take_length]
        · rw [Nat.min_eq_right (by omega)]
  · obtain ⟨x, K', rfl⟩ : ∃ x K', K = x :: K' := by cases K with | nil => simp at hq2; omega | cons x K' => exact ⟨x, K', rfl⟩
    obtain ⟨q', rfl⟩ : ∃ q', q = q' + 1 := ⟨q - 1, by omega⟩
    rw [List.take_succ_cons] at hqe
    have hr : ansR D (x :: K') = ⟨1, 0, ⟨#[79, 75]⟩, []⟩ := by unfold ansR; rw [if_neg (by omega), if_neg (by omega)]
    have hl : leftK D (x :: K') = K' := by unfold leftK; rw [if_pos hc, hqe]; exact nots_head h.nd
    have hD := ansD_on he (r := ansR D (x :: K')) (by rw [hc]; simp)
    rw [if_neg (by omega), if_neg (by omega), if_neg (by omega), if_pos hc, hr, ans_flags.1, hqe, List.tail_cons] at hD
    rw [hl, hr, hD]
    have hkl := h.kl
    simp only [List.length_cons] at hkl hq2
    have hnd := (List.nodup_cons.1 h.nd).2
    have hql : D.queue.length = q' + 1 := by rw [hqe, List.length_cons, List.length_take]; omega
    by_cases ht : K'.take q' = []
    · have hq0 : q' = 0 := by
        rcases List.take_eq_nil_iff.1 ht with h | h
        · exact h
        · subst h; simp at hq2; exact hq2
      subst hq0
      refine ⟨hnd, by omega, rfl, ?_, .inl ⟨rfl, by simp, ⟨rfl, by omega, hnd, .inr (.inr (.inl (by simp)))⟩⟩⟩
      simp only [cost, hM, if_false, hc, if_true, hql]
      simp; omega
    · refine ⟨hnd, by omega, rfl, ?_, .inl ⟨rfl, by simp [ht], ⟨rfl, by omega, hnd, .inr (.inr (.inr (.inl ⟨by simp [ht], q', ?_, by omega, rfl⟩)))⟩⟩⟩
      · simp only [cost, hM, if_false, hc, if_true, hql]
        have : (K'.take q').length = q' := by rw [List.length_take]; omega
        simp [ht, this]; omega
      · have : q' ≠ 0 := fun e => ht (by rw [e]; rfl)
        omega
  · have hr : ansR D K = ⟨3, 5, ⟨#[]⟩, []⟩ := by unfold ansR; rw [if_neg (by omega), if_pos hc]
    have hl : leftK D K = K := by unfold leftK; rw [if_neg (by omega)]
    have hD := ansD_on he (r := ansR D K) (by rw [hr, ans_flags5.2]; simp)
    rw [if_neg (by omega), if_neg (by omega), if_neg (by omega), if_neg (by omega), if_pos hc, hr, ans_flags5.1, if_neg (by simp)] at hD
    rw [hl, hr, hD]
    refine ⟨h.nd, h.kl, rfl, ?_, .inl ⟨rfl, by simp, ⟨rfl, h.kl, h.nd, .inr (.inr (.inr (.inr (.inr rfl))))⟩⟩⟩
    simp only [cost, hM, if_false, hc, if_true]
    simp; omega
  · have hr : ansR D K = ⟨1, 0, ⟨#[79, 75]⟩, []⟩ := by unfold ansR; rw [if_neg (by omega), if_neg (by omega)]
    have hl : leftK D K = K := by unfold leftK; rw [if_neg (by omega)]
    have hD := ansD_on he (r := ansR D K) (by rw [hr, ans_flags.2]; simp)
    rw [if_neg (by omega), if_neg (by omega), if_neg (by omega), if_neg (by omega), if_neg (by omega), hr, ans_flags.1, if_pos rfl] at hD
    rw [hl, hr, hD]
    refine ⟨h.nd, h.kl, rfl, ?_, .inr ⟨rfl, rfl⟩⟩
    simp only [cost, hM, if_false, hc, if_true]
    by_cases hM2 : D.plan.length ≤ D.dn + 1
    · simp [hM2, sm_end _ hM2, sm_end _ (show D.plan.length ≤ D.dn + 1 + 1 by omega)]
    · rw [sm_step (fun m => mvc B (F m)) (show D.dn + 1 < D.plan.length by omega)]
      simp [hM2]; omega
end Go.Proofs.YtdfijefgklhmdaaDoor.T
