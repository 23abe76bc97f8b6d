import Derived.Deep.DeepCutAuto
import Derived.Laws.OwnMore
import Derived.OwnWalk
import Derived.Lib.AppendStr
import Derived.Lib.SliceRun
import Derived.Lib.SmallJoins
import Derived.IntWalk
import Derived.WalkMore
import Derived.Lib.OthersKept
import Derived.Deep.LoopGhost
import Derived.Deep.RegionLaw
import Derived.Deep.AppendLies
import Derived.Test.YtmflalnajinejaaProg
import Derived.Test.YtmflalnajinejaaMem
import Derived.Test.YtmflalnajinejaaBlk
import Derived.Test.YtmflalnajinejaaAp
import Derived.Test.YtmflalnajinejaaKc
import Derived.Test.YtmflalnajinejaaKm
import Derived.Test.YtmflalnajinejaaKn
import Derived.Test.YtmflalnajinejaaKo
import Derived.Test.YtmflalnajinejaaKp
import Derived.Test.YtmflalnajinejaaKr
import Derived.Test.YtmflalnajinejaaKs
import Derived.Test.YtmflalnajinejaaKl
import Derived.Test.YtmflalnajinejaaKd
import Derived.Test.YtmflalnajinejaaKa
import Derived.Test.YtmflalnajinejaaKe
import Derived.Test.YtmflalnajinejaaKh
import Derived.Test.YtmflalnajinejaaKj
import Derived.Test.YtmflalnajinejaaKy
import Derived.Test.YtmflalnajinejaaLa
import Derived.Test.YtmflalnajinejaaLb
import Derived.WalkKit
import Derived.Outline
import Derived.WalkLawsBesides
import Derived.Deep.QuietTactic
import Derived.BigQuiet
import Derived.Lib.Hide
import Derived.Handy
import Derived.Deep.RegionHeld3
import Derived.Deep.DrawnRows
import Derived.KernelRfl
import Derived.Great.Walk
import Derived.Test.YtmflalnajinejaaOwn
namespace Go.Proofs.Ytmflalnajinejaa.T
open Go Go.RowKit Go.Sort Mem Own
set_option maxRecDepth 100000
set_option maxHeartbeats 1000000
set_option linter.unusedVariables false
set_option linter.unusedSimpArgs false

theorem below_turn {B b : Nat} {w0 w w' : World} (h : Below B w0 w) (hg : w.grownBy w' (some b)) (hb : B ≤ b) (hB : B ≤ w.heap.size) : Below B w0 w' :=
  ⟨hg.os.trans h.os, hg.tape.trans h.tape, hg.output.trans h.output, Nat.le_trans h.size hg.size, fun k hk => (hg.block k (by omega) (by simp; omega)).trans (h.block k hk)⟩
theorem tiny0 : Tiny (.mk 0 0 ⟨#[]⟩ []) := ⟨0, by rw [smallB_mk]; rfl⟩
/-- The letter of a number. -/
def numL (k : Int) : Lt := { Lt.zero with num := k }
theorem numL_v (k : Int) : ltV (numL k) ⟨none, 0, none, 0⟩ = .agg #[.int .i64 0, .int .i64 k, .int .i64 0, .int .i64 0, .string ⟨#[]⟩, .string ⟨#[]⟩, .slice none 0 0, .int .i64 0, .int .i64 0, .string ⟨#[]⟩, .slice none 0 0, .bool false, .int .i64 0] := rfl
theorem numL_o (w : World) (k : Int) : LtO w (numL k) ⟨none, 0, none, 0⟩ := ⟨.inl rfl, .inl rfl⟩
/-- Send of a letter of a number. -/
theorem send_num (g b n : Nat) (Q : En → List Lt) (x y k : Int) (w : World) (h : LK w g b n Q) (hx : En.wf (x, y)) (hn : n < 1000000) :
    Calls Try.prog 13 #[.pointer (some ⟨g, 0, none⟩), .int .i64 x, .int .i64 y, .agg #[.int .i64 0, .int .i64 k, .int .i64 0, .int .i64 0, .string ⟨#[]⟩, .string ⟨#[]⟩, .slice none 0 0, .int .i64 0, .int .i64 0, .string ⟨#[]⟩, .slice none 0 0, .bool false, .int .i64 0]] w fun e w' => e = .returned (.tuple #[]) ∧ LK w' g b (n + 1) (qadd Q (x, y) (numL k)) ∧ w.grownBy w' (some b) :=
  (send_is g b n Q x y (numL k) ⟨none, 0, none, 0⟩ w h hx hn (numL_o w k) tiny0 (Nat.zero_le _)).mono fun e w' h => ⟨h.1, h.2.1, h.2.2.1⟩
/-- Next of a queue that has a letter. -/
theorem next_is (g b n : Nat) (Q : En → List Lt) (x y : Int) (w : World) (h : LK w g b n Q) (hx : En.wf (x, y)) (hn : n < maxLen) (l : Lt) (r : List Lt) (hq : Q (x, y) = l :: r) :
    Calls Try.prog 14 #[.pointer (some ⟨g, 0, none⟩), .int .i64 x, .int .i64 y] w fun e w' => ∃ o, e = .returned (.tuple #[ltV l o, .bool true]) ∧ LtO w' l o ∧ LK w' g b (n + 1) (qpop Q (x, y)) ∧ w.grownBy w' (some b) := by
  by_cases hr : r = []
  · exact next_a g b n Q x y w h hx hn l r hq hr
  · exact next_c g b n Q x y w h hx hn l r hq hr
theorem wf12 : En.wf (1, 2) := ⟨by decide, by decide⟩
theorem one_of {l : List En} (hp : l.Pairwise (fun a b => bef a b = true)) (x : En) (h : ∀ y, y ∈ l ↔ y = x) : l = [x] := by
  match l, hp, h with
  | [], _, h => have := (h x).2 rfl; simp at this
  | [y], _, h => rw [(h y).1 (by simp)]
  | y :: z :: r, hp, h =>
    have e1 := (h y).1 (by simp)
    have e2 := (h z).1 (by simp)
    have := (List.pairwise_cons.1 hp).1 z (by simp)
    rw [e1, e2, bef_irr] at this; cases this
set_option maxHeartbeats 4000000 in
/-- law18.alive -/
theorem alive_is (w : World) : Calls Try.prog 10 #[] w fun e w' => e = .returned (.bool true) ∧ Below w.heap.size w w' := by
  go_enter Try.func10, Try.ntmps10
  go_upto_region 4 with (go_at_call 8; refine Calls.mono (new_is _) ?_; (rintro e w1 ⟨g, b, rfl, hL, hb, hg, hbb⟩; have HL := Lib.hid hL; have HB := Lib.hid hb; have HG := Lib.hid hg; have HBB := Lib.hid hbb; clear hL hb hg hbb))
  go_upto_region 5 with (go_at_call 13; refine Calls.mono (send_num g b 0 _ 1 2 5 w1 HL.out wf12 (by omega)) ?_; (rintro e w2 ⟨rfl, hL, hgr⟩; have HL2 := Lib.hid hL; have HB2 := Lib.hid (below_turn HB.out hgr HBB.out HB.out.size); clear hL hgr))
  go_upto_region 6 with (go_at_call 13; refine Calls.mono (send_num g b 1 _ 1 2 6 w2 HL2.out wf12 (by omega)) ?_; (rintro e w3 ⟨rfl, hL, hgr⟩; have HL3 := Lib.hid hL; have HB3 := Lib.hid (below_turn HB2.out hgr HBB.out HB2.out.size); clear hL hgr))
  clear HL HL2 HB HB2
  have HQ : RowKit.Hid (qadd (qadd (fun _ => []) (1, 2) (numL 5)) (1, 2) (numL 6) (1, 2) = numL 5 :: [numL 6]) := Lib.hid (by simp [qadd])
  go_upto_region 7 with (go_at_call 14; refine Calls.mono (next_is g b 2 _ 1 2 w3 HL3.out wf12 (by decide) (numL 5) [numL 6] HQ.out) ?_; (rintro e w4 ⟨o, rfl, ho, hL, hgr⟩; have HL4 := Lib.hid hL; have HB4 := Lib.hid (below_turn HB3.out hgr HBB.out HB3.out.size); clear hL hgr ho))
  have HB5 := Lib.hid (show Below w.heap.size w (w4.alloc (.cells (ltC (numL 5) o).toArray 33)) from HB4.out.alloc HB4.out.size _)
  have HL5 := Lib.hid (HL4.out.below ((Below.refl _ _).alloc (Nat.le_refl _) (.cells (ltC (numL 5) o).toArray 33)))
  obtain ⟨w5, hw5⟩ : ∃ W, W = w4.alloc (.cells (ltC (numL 5) o).toArray 33) := ⟨_, rfl⟩
  have HN := Lib.hid (show w5.heap[w4.heap.size]? = some (.cells (ltC (numL 5) o).toArray 33 (0, 0)) by rw [hw5]; exact heap_alloc_new w4 _)
  rw [← hw5] at HB5 HL5
  have hw6 := hw5.symm
  clear hw5 HL3 HL4 HB3 HB4 HQ
  rw [hw6]
  clear hw6
  have HQ5 := Lib.hid (show ∀ x, qpop (qadd (qadd (fun _ => []) (1, 2) (numL 5)) (1, 2) (numL 6)) (1, 2) x = if x = (1, 2) then [numL 6] else [] from fun x => by
    unfold qpop qadd
    by_cases e : x = (1, 2) <;> simp [e])
  obtain ⟨_, y1, _⟩ := cells13 HN.out
  have HW := Lib.hid (show Calls Try.prog 17 #[.pointer (some ⟨g, 0, none⟩), .int .i64 1, .int .i64 2] w5 fun e w' => e = .returned (.int .i64 1) ∧ w5 = w' from (waiting_is g b 3 _ 1 2 w5 HL5.out wf12).mono fun e w' h => ⟨by rw [h.1, HQ5.out]; rfl, h.2⟩)
  have HP := Lib.hid (show Calls Try.prog 16 #[.pointer (some ⟨g, 0, none⟩)] w5 fun e w' => (∃ A c, e = .returned (.slice A 1 c)) ∧ Below w5.heap.size w5 w' from (pairs_is g b 3 _ w5 HL5.out (by omega)).mono fun e w' ⟨A, c, l, he, _, hp, hwf, hm, hb⟩ => by
    have : l = [(1, 2)] := one_of hp (1, 2) fun y => by
      constructor
      · intro hy
        have := (hm y (hwf y hy)).1 hy
        rw [HQ5.out] at this
        by_cases e : y = (1, 2)
        · exact e
        · rw [if_neg e] at this; exact absurd rfl this
      · rintro rfl
        exact (hm _ wf12).2 (by rw [HQ5.out]; simp)
    subst this
    exact ⟨⟨A, c, he⟩, hb⟩)
  clear HQ5 HL5 HN HG HBB
  go_wp2_with (first
    | (go_at_call 17; refine Calls.mono HW.out ?_; (rintro e w6 ⟨rfl, rfl⟩))
    | (go_at_call 16; refine Calls.mono HP.out ?_; (rintro e w6 ⟨⟨A, c, rfl⟩, hb6⟩; have HB6 := Lib.hid (HB5.out.trans (hb6.mono HB5.out.size)); clear hb6)))
  go_ret
  exact ⟨rfl, HB6.out⟩
end Go.Proofs.Ytmflalnajinejaa.T
