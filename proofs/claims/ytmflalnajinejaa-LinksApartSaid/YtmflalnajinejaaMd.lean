import Derived.Deep.DeepCutAuto
import Derived.Laws.OwnMore
import Derived.OwnWalk
import Derived.Lib.AppendStr
import Derived.Lib.SliceRun
import Derived.Lib.SmallJoins
import Derived.IntWalk
import Derived.WalkMore
import Derived.Lib.OthersKept
import Derived.Deep.LoopGhost
import Derived.Deep.RegionLaw
import Derived.Deep.AppendLies
import Derived.Test.YtmflalnajinejaaProg
import Derived.Test.YtmflalnajinejaaMem
import Derived.Test.YtmflalnajinejaaBlk
import Derived.Test.YtmflalnajinejaaAp
import Derived.Test.YtmflalnajinejaaKa
import Derived.Test.YtmflalnajinejaaKd
import Derived.Test.YtmflalnajinejaaKl
import Derived.Test.YtmflalnajinejaaKx
import Derived.Test.YtmflalnajinejaaKm
import Derived.WalkKit
import Derived.Outline
import Derived.WalkLawsBesides
import Derived.Deep.QuietTactic
import Derived.BigQuiet
import Derived.Lib.Hide
import Derived.Handy
import Derived.Deep.RegionHeld3
import Derived.Deep.DrawnRows
import Derived.KernelRfl
import Derived.Great.Walk
import Derived.Test.YtmflalnajinejaaOwn
namespace Go.Proofs.Ytmflalnajinejaa.T
open Go Go.RowKit Go.Sort Mem Own
set_option maxRecDepth 100000
set_option maxHeartbeats 1000000
set_option linter.unusedVariables false
set_option linter.unusedSimpArgs false

/-- The queues are those of one row. -/
def QR (Q : En → List Lt) (L : List Wy) : Prop := ∀ x, Q x = (L.filter fun p => decide (p.1 = x)).map (·.2)
theorem QR.nil : QR (fun _ => []) [] := fun _ => rfl
theorem QR.add {Q : En → List Lt} {L : List Wy} (h : QR Q L) (x : En) (l : Lt) : QR (qadd Q x l) (L ++ [(x, l)]) := by
  intro y
  unfold qadd
  by_cases e : y = x
  · subst e
    rw [if_pos rfl, h y, List.filter_append, List.map_append]
    simp
  · rw [if_neg e, h y, List.filter_append, List.map_append]
    have : ¬ x = y := fun e' => e e'.symm
    simp [this]
/-- The first letter of a link taken out. -/
def rmW (x : En) : List Wy → List Wy
  | [] => []
  | p :: r => if p.1 = x then r else p :: rmW x r
def hdW (x : En) : List Wy → Option Lt
  | [] => none
  | p :: r => if p.1 = x then some p.2 else hdW x r
theorem rm_filter_self (x : En) : ∀ L : List Wy, (rmW x L).filter (fun p => decide (p.1 = x)) = (L.filter (fun p => decide (p.1 = x))).drop 1
  | [] => rfl
  | p :: r => by
    by_cases e : p.1 = x
    · simp [rmW, e]
    · simp [rmW, e, rm_filter_self x r]
theorem rm_filter_other {x y : En} (h : ¬ y = x) : ∀ L : List Wy, (rmW x L).filter (fun p => decide (p.1 = y)) = L.filter (fun p => decide (p.1 = y))
  | [] => rfl
  | p :: r => by
    by_cases e : p.1 = x
    · have e2 : ¬ p.1 = y := fun e' => h (by rw [← e', e])
      simp [rmW, e, List.filter_cons]
      intro h'; exact absurd h'.symm h
    · simp [rmW, e, List.filter_cons, rm_filter_other h r]
theorem QR.pop {Q : En → List Lt} {L : List Wy} (h : QR Q L) (x : En) : QR (qpop Q x) (rmW x L) := by
  intro y
  unfold qpop
  by_cases e : y = x
  · subst e
    rw [if_pos rfl, h y, rm_filter_self, List.map_drop]
  · rw [if_neg e, h y, rm_filter_other e]
theorem rm_mem {x : En} {p : Wy} : ∀ {L : List Wy}, p ∈ rmW x L → p ∈ L
  | [], h => h
  | q :: r, h => by
    unfold rmW at h
    split at h
    · exact List.mem_cons_of_mem _ h
    · rcases List.mem_cons.1 h with rfl | h
      · simp
      · exact List.mem_cons_of_mem _ (rm_mem h)
theorem rm_len {x : En} : ∀ {L : List Wy}, L.filter (fun p => decide (p.1 = x)) ≠ [] → (rmW x L).length + 1 = L.length
  | [], h => absurd rfl h
  | q :: r, h => by
    by_cases e : q.1 = x
    · simp [rmW, e]
    · have := rm_len (x := x) (L := r) (by simpa [List.filter_cons, e] using h)
      simp [rmW, e]; omega
theorem rm_none {x : En} : ∀ {L : List Wy}, L.filter (fun p => decide (p.1 = x)) = [] → rmW x L = L ∧ hdW x L = none
  | [], _ => ⟨rfl, rfl⟩
  | q :: r, h => by
    by_cases e : q.1 = x
    · simp [e] at h
    · have := rm_none (x := x) (L := r) (by simpa [List.filter_cons, e] using h)
      exact ⟨by simp [rmW, e, this.1], by simp [hdW, e, this.2]⟩
theorem hd_some {x : En} {l : Lt} {s : List Lt} : ∀ {L : List Wy}, (L.filter (fun p => decide (p.1 = x))).map (·.2) = l :: s → hdW x L = some l
  | [], h => by simp at h
  | q :: r, h => by
    by_cases e : q.1 = x
    · simp [e] at h
      simp [hdW, e, h.1]
    · have := hd_some (x := x) (l := l) (s := s) (L := r) (by simpa [List.filter_cons, e] using h)
      simp [hdW, e, this]
theorem QR.none {Q : En → List Lt} {L : List Wy} (h : QR Q L) {x : En} (hq : Q x = []) : rmW x L = L ∧ hdW x L = none := rm_none (by have := h x; rw [hq] at this; exact List.map_eq_nil_iff.1 this.symm)
theorem QR.some {Q : En → List Lt} {L : List Wy} (h : QR Q L) {x : En} {l : Lt} {s : List Lt} (hq : Q x = l :: s) : hdW x L = some l ∧ (rmW x L).length + 1 = L.length :=
  ⟨hd_some (by rw [← h x, hq]), rm_len fun e => by have := h x; rw [hq, e] at this; cases this⟩
theorem QR.cnt {Q : En → List Lt} {L : List Wy} (h : QR Q L) (x : En) : (Q x).length = cnt x L := by rw [h x, List.length_map]; rfl
theorem QR.mem {Q : En → List Lt} {L : List Wy} (h : QR Q L) (x : En) : Q x ≠ [] ↔ ∃ p ∈ L, p.1 = x := by
  rw [h x]
  constructor
  · intro hne
    obtain ⟨p, hp⟩ := List.exists_mem_of_ne_nil _ (fun e => hne (by rw [e]; rfl) : L.filter (fun p => decide (p.1 = x)) ≠ [])
    have := List.mem_filter.1 hp
    exact ⟨p, this.1, by simpa using this.2⟩
  · rintro ⟨p, hp, e⟩ hnil
    have : p ∈ L.filter (fun p => decide (p.1 = x)) := List.mem_filter.2 ⟨hp, by simpa using e⟩
    rw [List.map_eq_nil_iff.1 hnil] at this
    cases this
theorem cnt_cons (x : En) (p : Wy) (L : List Wy) : cnt x (p :: L) = cnt x L + if p.1 = x then 1 else 0 := by
  unfold cnt
  by_cases e : p.1 = x <;> simp [e]
/-- All are counted. -/
theorem cnt_sum : ∀ {L : List Wy} {l : List En}, l.Nodup → (∀ p ∈ L, p.1 ∈ l) → (l.map fun x => cnt x L).sum = L.length
  | [], l, _, _ => by
    induction l with
    | nil => rfl
    | cons a l ih => simp_all [cnt]
  | p :: L, l, hn, h => by
    have ih := cnt_sum (L := L) hn fun q hq => h q (List.mem_cons_of_mem _ hq)
    have key : ∀ l : List En, l.Nodup → (l.map fun x => cnt x (p :: L)).sum = (l.map fun x => cnt x L).sum + if p.1 ∈ l then 1 else 0 := by
      intro l
      induction l with
      | nil => intro _; simp
      | cons a l ihl =>
        intro hn
        obtain ⟨h1, h2⟩ := List.nodup_cons.1 hn
        simp only [List.map_cons, List.sum_cons, ihl h2, List.mem_cons]
        rw [cnt_cons]
        by_cases e : p.1 = a
        · have h3 : ¬ p.1 ∈ l := by rw [e]; exact h1
          rw [if_pos e, if_neg h3, if_pos (.inl e)]; omega
        · by_cases e2 : p.1 ∈ l
          · rw [if_neg e, if_pos e2, if_pos (.inr e2)]; omega
          · rw [if_neg e, if_neg e2, if_neg (by rintro (h | h); exact e h; exact e2 h)]; omega
    rw [key l hn, ih, if_pos (h p (by simp))]; rfl
end Go.Proofs.Ytmflalnajinejaa.T
