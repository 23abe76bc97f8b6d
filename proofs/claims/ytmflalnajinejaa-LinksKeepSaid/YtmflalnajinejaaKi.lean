import Derived.Deep.DeepCutAuto
import Derived.Laws.OwnMore
import Derived.OwnWalk
import Derived.Lib.AppendStr
import Derived.Lib.SliceRun
import Derived.Lib.SmallJoins
import Derived.IntWalk
import Derived.WalkMore
import Derived.Lib.OthersKept
import Derived.Deep.LoopGhost
import Derived.Deep.RegionLaw
import Derived.Deep.AppendLies
import Derived.Test.YtmflalnajinejaaProg
import Derived.Test.YtmflalnajinejaaMem
import Derived.Test.YtmflalnajinejaaBlk
import Derived.Test.YtmflalnajinejaaAp
import Derived.Test.YtmflalnajinejaaKd
import Derived.Test.YtmflalnajinejaaOwn
import Derived.WalkKit
import Derived.Outline
import Derived.WalkLawsBesides
import Derived.Deep.QuietTactic
import Derived.BigQuiet
import Derived.Lib.Hide
import Derived.Handy
import Derived.Deep.RegionHeld3
import Derived.Deep.DrawnRows
import Derived.KernelRfl
import Derived.Great.Walk
import Derived.Test.YtmflalnajinejaaOwn
namespace Go.Proofs.Ytmflalnajinejaa.T
open Go Go.RowKit Go.Sort Mem Own
set_option maxRecDepth 100000
set_option maxHeartbeats 1000000
set_option linter.unusedVariables false
set_option linter.unusedSimpArgs false

theorem info9 : (Try.prog.info? 9).map (fun i => (i.zero, i.size, i.bytes)) = some (some (.string ⟨#[]⟩), 1, 16) := by kernel_rfl
theorem info31 : (Try.prog.info? 31).map (fun i => (i.zero, i.size, i.bytes)) = some (some (.agg #[.int .i64 0, .int .i64 0, .string ⟨#[]⟩, .slice none 0 0]), 4, 56) := by kernel_rfl
theorem und28 : Try.prog.underlying 28 = some (.slice 9) := Try.underlying28
theorem und29 : Try.prog.underlying 29 = some (.slice 31) := Try.underlying29
/-- What a clone's end says. -/
def Cl (T sz : Nat) (A : Option Addr) (n : Nat) (w : World) (e : Ending) (w' : World) : Prop :=
  Below w.heap.size w w' ∧ ((A = none ∧ n = 0 ∧ e = .returned (.slice none 0 0)) ∨ ∃ g cap cur, A.isSome = true ∧ e = .returned (.slice (some ⟨g, 0, none⟩) n cap) ∧ w.heap.size ≤ g ∧ n ≤ cap ∧ cap ≤ maxLen ∧ w'.heap[g]? = some (.cells cur T (0, 0)) ∧ cur.size = cap * sz ∧ ∀ j, j < n * sz → (A.bind fun a => w.cell? (a.add j)) = cur[j]?)
theorem news_ex {w : World} {A : Option Addr} {m : Nat} (h : ∀ j, j < m → ∃ a u, A = some a ∧ w.cell? (a.add j) = some u ∧ u.oneCell' = true) :
    ∃ news : List Value, news.length = m ∧ (∀ u ∈ news, u.oneCell' = true) ∧ ∀ a, A = some a → (∀ j u, news[j]? = some u → w.cell? (a.add j) = some u) ∧ ∀ j, j < m → w.cell? (a.add j) = news[j]? := by
  have hc : ∀ j, j < m → ∃ u, (A.bind fun a => w.cell? (a.add j)) = some u ∧ u.oneCell' = true := by
    intro j hj
    obtain ⟨a, u, rfl, h1, h2⟩ := h j hj
    exact ⟨u, h1, h2⟩
  refine ⟨(List.range m).map fun j => (A.bind fun a => w.cell? (a.add j)).getD undef, by simp, ?_, ?_⟩
  · intro u hu
    rw [List.mem_map] at hu
    obtain ⟨j, hj, rfl⟩ := hu
    obtain ⟨u, e, h1⟩ := hc j (List.mem_range.1 hj)
    rw [e]; exact h1
  · rintro a rfl
    have key : ∀ j, j < m → w.cell? (a.add j) = ((List.range m).map fun j => ((some a).bind fun a => w.cell? (a.add j)).getD undef)[j]? := by
      intro j hj
      obtain ⟨u, e, _⟩ := hc j hj
      have e' : w.cell? (a.add j) = some u := e
      simp [hj, e']
    refine ⟨fun j u e => ?_, key⟩
    have hj : j < m := by have := (List.getElem?_eq_some_iff.1 e).1; simpa using this
    rw [key j hj]; exact e
theorem cl_of {T sz n : Nat} {A : Option Addr} {a : Addr} {w w' : World} {v : Value} {news : List Value} (hA : A = some a) (ho : w'.ownsRow w.heap.size T sz v n news) (hv : v ≠ .slice none 0 0) (hb : Below w.heap.size w w')
    (h : ∀ j, j < n * sz → w.cell? (a.add j) = news[j]?) : Cl T sz A n w (.returned v) w' := by
  refine ⟨hb, .inr ?_⟩
  have ho' := ho
  rcases ho.2 with ⟨rfl, _⟩ | ⟨g, cap, cur, rfl, h1, h2, h3, h4, h5, h6⟩
  · exact absurd rfl hv
  · refine ⟨g, cap, cur, by rw [hA]; rfl, rfl, h1, h3, h4, h2, h5, fun j hj => ?_⟩
    subst hA
    show w.cell? (a.add j) = _
    rw [h j hj, ← ho'.cellAt j hj, of_blk h2]

set_option maxHeartbeats 2000000 in
theorem clone34_is (A : Option Addr) (n c : Nat) (w : World) (h : ∀ j, j < n * 4 → ∃ a u, A = some a ∧ w.cell? (a.add j) = some u ∧ u.oneCell' = true) (hn : n ≤ 1000000) (h0 : A = none → n = 0) :
    Calls Try.prog 34 #[.slice A n c] w fun e w' => Cl 31 4 A n w e w' := by
  have q : ∀ (w : World) (a : Option Addr) (n c n' c' : Nat), (binOp .eql 29 (.slice a n c) (.slice none n' c')).run Try.prog w = .ok (.bool a.isNone) w := fun w a n c n' c' => Lib.run_eql_slice_nil w _ _ a n c n' c' und29
  cases A with
  | none =>
    have hz := h0 rfl
    subst hz
    clear h h0
    go_enter Try.func34, Try.ntmps34
    go_wp2
    go_ret
    exact ⟨Below.refl _ _, .inl ⟨rfl, rfl, rfl⟩⟩
  | some a =>
    obtain ⟨news, hl, h1, h2⟩ := news_ex h
    obtain ⟨hc, hk⟩ := h2 a rfl
    obtain ⟨i0, hi, hz0, hz1, hz2⟩ := info_parts info31
    have HC := Lib.hid hc
    have HK := Lib.hid hk
    clear h h0 h2 hc hk
    go_enter Try.func34, Try.ntmps34
    go_wp2_with (at_builtin; refine wpList_append_own _ rfl _ _ 29 rfl w.heap.size 31 i0 _ 4 56 und29 hi hz0 hz1 hz2 rfl (by decide) _ _ _ rfl (World.ownsRow_made w #[] 0 (Nat.le_refl _) (Nat.zero_le _) (by simp)) a n c news rfl ?qc1 ?qc2 ?qc3 ?qc4 ?qc5 ?qc6 ?_)
    case qc1 => exact hl
    case qc2 =>
      intro j u hj
      exact Lib.cell?_alloc_some _ (HC.out j u hj)
    case qc3 => exact h1
    case qc4 => rw [Nat.zero_add]; exact Nat.le_trans hn (by decide)
    case qc5 => omega
    case qc6 => simp
    intro v' w1 hown hgrow hnil
    go_wp2
    go_ret
    exact cl_of rfl (by simpa using hown) hnil (((Below.refl _ w).alloc (Nat.le_refl _) _).grown hgrow (by simp) (by intro k hk; simp [Value.ownBlock] at hk; omega)) HK.out

set_option maxHeartbeats 2000000 in
theorem clone23_is (A : Option Addr) (n c : Nat) (w : World) (h : ∀ j, j < n * 1 → ∃ a u, A = some a ∧ w.cell? (a.add j) = some u ∧ u.oneCell' = true) (hn : n ≤ 1000000) (h0 : A = none → n = 0) :
    Calls Try.prog 23 #[.slice A n c] w fun e w' => Cl 9 1 A n w e w' := by
  have q : ∀ (w : World) (a : Option Addr) (n c n' c' : Nat), (binOp .eql 28 (.slice a n c) (.slice none n' c')).run Try.prog w = .ok (.bool a.isNone) w := fun w a n c n' c' => Lib.run_eql_slice_nil w _ _ a n c n' c' und28
  cases A with
  | none =>
    have hz := h0 rfl
    subst hz
    clear h h0
    go_enter Try.func23, Try.ntmps23
    go_wp2
    go_ret
    exact ⟨Below.refl _ _, .inl ⟨rfl, rfl, rfl⟩⟩
  | some a =>
    obtain ⟨news, hl, h1, h2⟩ := news_ex h
    obtain ⟨hc, hk⟩ := h2 a rfl
    obtain ⟨i0, hi, hz0, hz1, hz2⟩ := info_parts info9
    have HC := Lib.hid hc
    have HK := Lib.hid hk
    clear h h0 h2 hc hk
    go_enter Try.func23, Try.ntmps23
    go_wp2_with (at_builtin; refine wpList_append_own _ rfl _ _ 28 rfl w.heap.size 9 i0 _ 1 16 und28 hi hz0 hz1 hz2 rfl (by decide) _ _ _ rfl (World.ownsRow_made w #[] 0 (Nat.le_refl _) (Nat.zero_le _) (by simp)) a n c news rfl ?qc1 ?qc2 ?qc3 ?qc4 ?qc5 ?qc6 ?_)
    case qc1 => exact hl
    case qc2 =>
      intro j u hj
      exact Lib.cell?_alloc_some _ (HC.out j u hj)
    case qc3 => exact h1
    case qc4 => rw [Nat.zero_add]; exact Nat.le_trans hn (by decide)
    case qc5 => omega
    case qc6 => simp
    intro v' w1 hown hgrow hnil
    go_wp2
    go_ret
    exact cl_of rfl (by simpa using hown) hnil (((Below.refl _ w).alloc (Nat.le_refl _) _).grown hgrow (by simp) (by intro k hk; simp [Value.ownBlock] at hk; omega)) HK.out
end Go.Proofs.Ytmflalnajinejaa.T
