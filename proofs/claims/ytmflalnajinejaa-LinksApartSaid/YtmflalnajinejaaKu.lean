import Derived.Deep.DeepCutAuto
import Derived.Laws.OwnMore
import Derived.OwnWalk
import Derived.Lib.AppendStr
import Derived.Lib.SliceRun
import Derived.Lib.SmallJoins
import Derived.IntWalk
import Derived.WalkMore
import Derived.Lib.OthersKept
import Derived.Deep.LoopGhost
import Derived.Deep.RegionLaw
import Derived.Deep.AppendLies
import Derived.Test.YtmflalnajinejaaProg
import Derived.Test.YtmflalnajinejaaMem
import Derived.Test.YtmflalnajinejaaBlk
import Derived.Test.YtmflalnajinejaaAp
import Derived.Test.YtmflalnajinejaaKa
import Derived.Test.YtmflalnajinejaaKd
import Derived.Test.YtmflalnajinejaaKl
import Derived.Test.YtmflalnajinejaaOwn
import Derived.RangeFuncGives
import Derived.RangeFuncSeq
import Derived.Sort.MapsRangeIn
import Derived.Sort.KeysCollected
import Derived.OwnWalkIn
import Derived.TacticsInMore
import Derived.RegionIn
import Derived.LoopNIn
import Derived.LoopIn
import Derived.Maps.AppendAt
import Derived.Shelf.Abstract
import Derived.WalkKit
import Derived.Outline
import Derived.WalkLawsBesides
import Derived.Deep.QuietTactic
import Derived.BigQuiet
import Derived.Lib.Hide
import Derived.Handy
import Derived.Deep.RegionHeld3
import Derived.Deep.DrawnRows
import Derived.KernelRfl
import Derived.Great.Walk
import Derived.Test.YtmflalnajinejaaOwn
namespace Go.Proofs.Ytmflalnajinejaa.T
open Go Go.RowKit Go.Sort Mem Own
set_option maxRecDepth 100000
set_option maxHeartbeats 1000000
set_option linter.unusedVariables false
set_option linter.unusedSimpArgs false

open Go.WideMaps Go.Maps
/-- What the range has given so far. -/
def CollE (D0 : DataW Value) (left : Lit → Bool) (ss : List En) : Prop := ss.Nodup ∧ (∀ x ∈ ss, x.wf) ∧ ∀ x : En, x.wf → (x ∈ ss ↔ (has D0 (enK x) = true ∧ left (enK x) = false))
theorem CollE.start (D0 : DataW Value) : CollE D0 (has D0) [] := ⟨List.nodup_nil, by simp, fun x _ => by cases has D0 (enK x) <;> simp⟩
theorem CollE.step {D0 : DataW Value} {left : Lit → Bool} {ss : List En} (h : CollE D0 left ss) {x : En} (hx : x.wf) {y : DataW Value} (hlk : left (enK x) = true) (hat : ∀ zd, D0.atKey (enK x) zd = y) : CollE D0 (fun z => left z && !z.sameKey (enK x)) (ss ++ [x]) := by
  have hhas : has D0 (enK x) = true := has_true_of_atKey hat
  have hnew : x ∉ ss := fun hm => by have := ((h.2.2 x hx).1 hm).2; rw [hlk] at this; cases this
  refine ⟨List.nodup_append.2 ⟨h.1, by simp, fun a ha b hb => by simp at hb; subst hb; exact fun e => hnew (e ▸ ha)⟩, fun a ha => ?_, fun y hy => ?_⟩
  · rcases List.mem_append.1 ha with ha | ha
    · exact h.2.1 a ha
    · simp at ha; subst ha; exact hx
  · by_cases e : y = x
    · subst e; simp [hhas, WideAt.sameKey_self (isKey y)]
    · have hne := enK_ne hx hy e
      simp [h.2.2 y hy, e, sameKey_ne hne]
/-- All keys, each once. -/
def AllE (D0 : DataW Value) (ss : List En) : Prop := ss.Nodup ∧ (∀ x ∈ ss, x.wf) ∧ ∀ x : En, x.wf → (x ∈ ss ↔ has D0 (enK x) = true)
set_option maxRecDepth 100000 in
set_option maxHeartbeats 1000000 in
theorem keys1_in (F : Fence) (n : Nat) (h10 : F.fn 37) (hro : F.round = none) (hn : 1 ≤ n) (l Bm b nn : Nat) (D0 : DataW Value) (J : List En → World → Prop)
    (hY : ∀ pre (x : En) W, x.wf → J pre W → pre.length < Maps.size D0 → YieldAt F (n - 1) Try.prog l #[enV x] W fun e W' => e = .returned (.bool true) ∧ J (pre ++ [x]) W' ∧ KeepsWalks W W')
    (W : World) (hJ : AbidesFrom W.heap.size J) (hm : W.cell? ⟨Bm, 0, none⟩ = some (.map (some b))) (hown : W.ownsMap Try.prog 40 RV b nn D0) (h0 : J [] W) :
    CallsIn F n Try.prog 37 #[.func (.yield l) #[] #[], .pointer (some ⟨Bm, 0, none⟩)] W fun e W' => (∃ v, e = .returned v) ∧ ∃ ss : List En, AllE D0 ss ∧ J ss W' := by
  refine callsIn_of_wp Try.func37 rfl h10 ?_ hro
  simp only [Try.ntmps37, List.size_toArray, List.length_cons, List.length_nil, Nat.reduceAdd, Nat.reduceSub, Array.replicate_succ, Array.replicate_zero, List.push_toArray, List.append_toArray, List.nil_append, List.cons_append]
  gi_wp2_with (first
    | (gi_at_range; refine wpListIn_range_own _ rfl _ 51 rfl 40 63 K40 Try.underlying51 _ b nn _ rfl hown ?_; intro w0 hrg0 hg0 hs0)
    | gi_in)
  go_frame
  gi_loopw [3] (fun _ wr => ∃ (left : Lit → Bool) (cnt : Nat) (ss : List En), wr.ranges Try.prog 40 RV b W.heap.size nn D0 left cnt ∧ ss.length + cnt ≤ Maps.size D0 ∧ CollE D0 left ss ∧ J ss wr)
    (fun _ wr => wr.rangeLeft b W.heap.size)
  case atStart =>
    exact ⟨_, _, [], hrg0, by simp, CollE.start D0, hJ [] W w0 none h0 hg0 (fun r e => by cases e)⟩
  case round =>
    obtain ⟨left, cnt, ss, hrg, hcs, hC, hJs⟩ := hrel
    gi_wp2_with (first
      | (gi_at_next; refine wpListIn_next_ranges _ rfl _ rfl 40 K40 RV enV (fun v : Value => v) (fun key kl hk => by obtain ⟨x, _, hx, _⟩ := keyOf_inv hk; exact ⟨x, hx⟩) (fun v y hv => ⟨v, rfl⟩) b W.heap.size nn _ _ _ rfl hrg ?_ ?_)
      | gi_in)
    · intro hc0 hl0
      gi_wp2
      go_end0
      exact ⟨⟨_, rfl⟩, ss, ⟨hC.1, hC.2.1, fun x hx => by rw [hC.2.2 x hx, hl0]; simp⟩, hJs⟩
    · intro x1 x2 c kl yd yp w2 cnt2 hkey hlk hv hat hrg2 hlt hg2 hs2 hen
      obtain ⟨x', hwf, ex, rfl⟩ := keyOf_inv hkey
      obtain rfl : (x1, x2) = x' := enV_inj ex
      have hJ2 : J ss w2 := hJ ss wr w2 (some W.heap.size) hJs hg2 (fun r e => by cases e; exact ⟨Nat.le_refl _, hrg.iter_walk⟩)
      have hzz : W.heap.size < w2.heap.size := hrg2.lt
      have hg3 : w2.grownBy (w2.alloc (.cells #[.int .i64 x1, .int .i64 x2] 40)) none := World.grownBy_alloc _ _ _
      have hJ3 : J ss (w2.alloc (.cells #[.int .i64 x1, .int .i64 x2] 40)) := hJ ss _ _ none hJ2 hg3 (fun r e => by cases e)
      have hrg4 := hrg2.alloc (.cells #[.int .i64 x1, .int .i64 x2] 40)
      clear hs2
      have hev : enV (x1, x2) = .agg #[.int .i64 x1, .int .i64 x2] := rfl
      obtain ⟨fn, tmps, assign, body, hy, hR⟩ := hY ss (x1, x2) _ hwf hJ3 (by omega)
      rw [hev] at hy hen ⊢
      gi_wp2
      refine hR.mono ?_
      rintro e W3 ⟨rfl, hJ4, hk3⟩
      gi_wp2
      have hrg3 := hrg4.of_walks hk3
      go_roundw
      case rel => exact ⟨_, cnt2, ss ++ [(x1, x2)], hrg3, by simp; omega, hC.step hwf hlk hat, hJ4⟩
      case measure => rw [hrg3.left_eq, hrg.left_eq]; exact hlt
set_option maxHeartbeats 1000000 in
/-- maps.Keys -/
theorem keys_in (F : Fence) (n : Nat) (h7 : F.fn 29) (hro : F.round = none) (mb : Option Nat) (w : World) :
    CallsIn F n Try.prog 29 #[.map mb] w fun e w' => e = .returned (.func (.func 37) #[] #[.pointer (some ⟨w.heap.size, 0, none⟩)]) ∧ w' = w.alloc (.cells #[.map mb] 51) := by
  refine callsIn_of_wp Try.func29 rfl h7 ?_ hro
  simp only [Try.ntmps29, List.size_toArray, List.length_cons, List.length_nil, Nat.reduceAdd, Nat.reduceSub, Array.replicate_succ, Array.replicate_zero, List.push_toArray, List.append_toArray, List.nil_append, List.cons_append]
  gi_wp2
  go_ret
  exact ⟨rfl, rfl⟩
theorem keys_gives (F : Fence) (n : Nat) (h10 : F.fn 37) (hro : F.round = none) (hn : 1 ≤ n) (Bm b nn : Nat) (D0 : DataW Value) (w : World) (hBm : Bm < w.heap.size)
    (hm : w.cell? ⟨Bm, 0, none⟩ = some (.map (some b))) (hown : w.ownsMap Try.prog 40 RV b nn D0) :
    SeqGives F n Try.prog 37 #[.pointer (some ⟨Bm, 0, none⟩)] enV (fun ss => AllE D0 ss) (Maps.size D0) w := fun l J W hW hJ hY h0 => by
  have hown' : W.ownsMap Try.prog 40 RV b nn D0 := by
    have hbl := hown.lt
    obtain ⟨es, clock, hb, Ft, hs, hD⟩ := hown
    exact ⟨es, clock, (hW.block b hbl).trans hb, Ft, hs, hD⟩
  exact keys1_in F n h10 hro hn l Bm b nn D0 J (fun pre x W1 _ h1 h2 => hY pre x W1 h1 h2) W hJ ((hW.cell (p := ⟨Bm, 0, none⟩) hBm).trans hm) hown' h0
end Go.Proofs.Ytmflalnajinejaa.T
