import Derived.Deep.DeepCutAuto
import Derived.Laws.OwnMore
import Derived.OwnWalk
import Derived.Lib.AppendStr
import Derived.Lib.SliceRun
import Derived.Lib.SmallJoins
import Derived.IntWalk
import Derived.WalkMore
import Derived.Lib.OthersKept
import Derived.Deep.LoopGhost
import Derived.Deep.RegionLaw
import Derived.Deep.AppendLies
import Derived.Test.YtmflalnajinejaaProg
import Derived.Test.YtmflalnajinejaaMem
import Derived.Test.YtmflalnajinejaaBlk
import Derived.Test.YtmflalnajinejaaAp
import Derived.Test.YtmflalnajinejaaKc
import Derived.Test.YtmflalnajinejaaKm
import Derived.Test.YtmflalnajinejaaKn
import Derived.Test.YtmflalnajinejaaKo
import Derived.Test.YtmflalnajinejaaKp
import Derived.Test.YtmflalnajinejaaKr
import Derived.Test.YtmflalnajinejaaKs
import Derived.Test.YtmflalnajinejaaKl
import Derived.Test.YtmflalnajinejaaKd
import Derived.Test.YtmflalnajinejaaKa
import Derived.Test.YtmflalnajinejaaKe
import Derived.Test.YtmflalnajinejaaKh
import Derived.Test.YtmflalnajinejaaKj
import Derived.Test.YtmflalnajinejaaKy
import Derived.Test.YtmflalnajinejaaLa
import Derived.Test.YtmflalnajinejaaLb
import Derived.Test.YtmflalnajinejaaMc
import Derived.WalkKit
import Derived.Outline
import Derived.WalkLawsBesides
import Derived.Deep.QuietTactic
import Derived.BigQuiet
import Derived.Lib.Hide
import Derived.Handy
import Derived.Deep.RegionHeld3
import Derived.Deep.DrawnRows
import Derived.KernelRfl
import Derived.Great.Walk
import Derived.Test.YtmflalnajinejaaOwn
namespace Go.Proofs.Ytmflalnajinejaa.T
open Go Go.RowKit Go.Sort Mem Own
set_option maxRecDepth 100000
set_option maxHeartbeats 1000000
set_option linter.unusedVariables false
set_option linter.unusedSimpArgs false

/-- A row of numbers. -/
def RdI (w : World) (A : Option Addr) (l : List Int) : Prop := l = [] ∨ ∃ b off, A = some ⟨b, off, none⟩ ∧ ∀ i (h : i < l.length), w.cell? ⟨b, off + i, none⟩ = some (.int .i64 l[i])
theorem RdI.keeps {w w' : World} {A : Option Addr} {l : List Int} (h : RdI w A l) (hk : Keeps w w') : RdI w' A l := by
  rcases h with h | ⟨b, off, e, h⟩
  · exact .inl h
  · exact .inr ⟨b, off, e, fun i hi => hk _ _ (h i hi)⟩
theorem RdI.row {w : World} {A : Option Addr} {l : List Int} (h : RdI w A l) (hl : 0 < l.length) : ∃ b off, A = some ⟨b, off, none⟩ ∧ ∀ i (h : i < l.length), w.cell? ⟨b, off + i, none⟩ = some (.int .i64 l[i]) := by
  rcases h with h | h
  · simp [h] at hl
  · exact h
theorem below_keeps {B : Nat} {w w' : World} {p : Addr} {v : Value} (h : Below B w w') (hp : p.block < B) (e : w.cell? p = some v) : w'.cell? p = some v := by
  unfold World.cell? at e ⊢
  rw [h.block _ hp]; exact e
set_option maxHeartbeats 4000000 in
/-- law18.LinksOrder -/
theorem order_is (l : List Int) (A : Option Addr) (n c : Nat) (x y : Int) (w : World) (hl : l.length = n) (hr : RdI w A l) (hx : En.wf (x, y)) :
    Calls Try.prog 4 #[.slice A n c, .agg #[.int .i64 x, .int .i64 y]] w fun e w' => e = .returned (.bool true) ∧ Below w.heap.size w w' := by
  have hy : En.wf (y, x) := ⟨hx.2, hx.1⟩
  have HX := Lib.hid hx
  have HY := Lib.hid hy
  have HL := Lib.hid hl
  have HN := Lib.hid (new1 w #[.int .i64 x, .int .i64 y] 40)
  have HR := Lib.hid (hr.keeps (keeps_below HN.out.2))
  obtain ⟨W, hW⟩ : ∃ W, W = w.alloc (.cells #[.int .i64 x, .int .i64 y] 40) := ⟨_, rfl⟩
  have hzW : w.heap.size < W.heap.size := by rw [hW, alloc_sz]; omega
  have HW := Lib.hid hW.symm
  rw [← hW] at HN HR
  clear hW hr hl hx hy
  have HB0 := Lib.hid HN.out.2
  have HBX := Lib.hid (cells2 HN.out.1)
  go_enter Try.func4, Try.ntmps4
  go_upto_region 1 with fail
  rw [HW.out]
  go_upto_region 2 with (go_at_call 8; refine Calls.mono (new_is _) ?_; (rintro e w1 ⟨g, b, rfl, hL, hb, hg, hbb⟩; have HLK := Lib.hid hL; have HB := Lib.hid hb; have HG := Lib.hid hg; have HBB := Lib.hid hbb; clear hL hb hg hbb))
  by_cases h500 : 500 < n
  · have hd : decide ((500 : Int) < (n : Int)) = true := by simp; omega
    go_wp2_with (go_at_call 10; refine Calls.mono (alive_is _) ?_; (rintro e w2 ⟨rfl, hb2⟩; have HB2 := Lib.hid (HB0.out.trans ((HB.out.trans (hb2.mono HB.out.size)).mono (by omega))); clear hb2))
    go_ret
    exact ⟨rfl, HB2.out⟩
  have hd : decide ((500 : Int) < (n : Int)) = false := by simp; omega
  have hn5 : n ≤ 500 := by omega
  clear h500
  go_wp2_with fail
  go_loopw [29] (fun s29 wr => ∃ i : Nat, i ≤ n ∧ s29 = .int .i64 i ∧ ∃ (k : Nat) (Q : En → List Lt), k ≤ 2 * i ∧ RowKit.Hid (LK wr g b k Q) ∧ RowKit.Hid (Q (x, y) = (l.take i).map numL) ∧ RowKit.Hid (Below W.heap.size W wr)) (fun s29 _ => n - (intOf s29).toNat)
  case atStart => exact ⟨0, Nat.zero_le _, rfl, 0, _, Nat.zero_le _, HLK, Lib.hid (by simp), HB⟩
  case round =>
    obtain ⟨i, hi, rfl, k, Q, hk, HLi, HQ, HBi⟩ := hrel
    have hzr := HBi.out.size
    by_cases hlt : i < n
    · have hlt2 := Lib.hid (show i < l.length by rw [HL.out]; exact hlt)
      obtain ⟨bq, off, rfl, hrow⟩ := HR.out.row (Nat.zero_lt_of_lt hlt2.out)
      have g0 := cell_below HBi.out (hrow i hlt2.out)
      have HQ1 := Lib.hid (show Q (x, y) ++ [numL (l[i]'hlt2.out)] = (l.take (i + 1)).map numL by rw [HQ.out, List.take_succ_eq_append_getElem hlt2.out, List.map_append]; rfl)
      clear hrow
      generalize l[i]'hlt2.out = z at g0 HQ1
      have x0 := below_keeps HBi.out hzW HBX.out.1
      have x1 := below_keeps HBi.out hzW HBX.out.2
      go_upto_region 8 with (go_at_call 13; refine Calls.mono (send_num g b k _ x y z wr HLi.out HX.out (by omega)) ?_; (rintro e w2 ⟨rfl, hL, hgr⟩; have HL2 := Lib.hid hL; have HB2 := Lib.hid (below_turn HBi.out hgr HBB.out hzr); clear hL hgr))
      have x0 := below_keeps HB2.out hzW HBX.out.1
      have x1 := below_keeps HB2.out hzW HBX.out.2
      have hz2 := HB2.out.size
      by_cases hxy : x = y
      · have hq : (x == y) = true := by simpa using hxy
        go_wp2
        exact ⟨⟨i + 1, by omega, by go_num, k + 1, _, by omega, HL2, Lib.hid (by rw [← HQ1.out]; simp [qadd]), HB2⟩, by simp [intOf]; omega⟩
      · have hq : (x == y) = false := by simpa using hxy
        go_wp2_with (go_at_call 13; refine Calls.mono (send_num g b (k + 1) _ y x (-7) w2 HL2.out HY.out (by omega)) ?_; (rintro e w3 ⟨rfl, hL, hgr⟩; have HL3 := Lib.hid hL; have HB3 := Lib.hid (below_turn HB2.out hgr HBB.out hz2); clear hL hgr))
        exact ⟨⟨i + 1, by omega, by go_num, k + 1 + 1, _, by omega, HL3, Lib.hid (by rw [← HQ1.out]; unfold qadd; rw [if_neg (fun e => hxy (Prod.mk.inj e).1), if_pos rfl]), HB3⟩, by simp [intOf]; omega⟩
    · have hin : i = n := by omega
      subst hin
      have HQn := Lib.hid (show Q (x, y) = (l.drop 0).map numL by rw [HQ.out, ← HL.out, List.take_length, List.drop_zero])
      clear HQ
      have hk2 : k ≤ 1000 := by omega
      clear hk
      go_wp2_with fail
      go_loopw [56] (fun s56 wx => ∃ j : Nat, j ≤ i ∧ s56 = .int .i64 j ∧ ∃ (k : Nat) (Q : En → List Lt), k ≤ 1000 + j ∧ RowKit.Hid (LK wx g b k Q) ∧ RowKit.Hid (Q (x, y) = (l.drop j).map numL) ∧ RowKit.Hid (Below W.heap.size W wx)) (fun s56 _ => i - (intOf s56).toNat)
      case atStart => exact ⟨0, Nat.zero_le _, rfl, k, _, by omega, HLi, HQn, HBi⟩
      case round =>
        clear HLi HQn HBi hk2 hzr
        obtain ⟨j, hj, rfl, k', Q', hk', HLj, HQj, HBj⟩ := hrel
        have hzr := HBj.out.size
        have x0 := below_keeps HBj.out hzW HBX.out.1
        have x1 := below_keeps HBj.out hzW HBX.out.2
        by_cases hlt : j < i
        · have hlt2 := Lib.hid (show j < l.length by rw [HL.out]; exact hlt)
          obtain ⟨bq, off, rfl, hrow⟩ := HR.out.row (Nat.zero_lt_of_lt hlt2.out)
          have g0 := cell_below HBj.out (hrow j hlt2.out)
          have HQ1 := Lib.hid (show Q' (x, y) = numL (l[j]'hlt2.out) :: (l.drop (j + 1)).map numL by rw [HQj.out, List.drop_eq_getElem_cons hlt2.out]; rfl)
          clear hrow
          generalize l[j]'hlt2.out = z at g0 HQ1
          go_upto_region 15 with (go_at_call 14; refine Calls.mono (next_is g b k' Q' x y wr HLj.out HX.out (Nat.lt_of_le_of_lt (show k' ≤ 2000 by omega) (by decide)) (numL z) _ HQ1.out) ?_; (rintro e w4 ⟨o, rfl, ho, hL, hgr⟩; have HL4 := Lib.hid hL; have HB4 := Lib.hid (below_turn HBj.out hgr HBB.out hzr); clear hL hgr ho))
          have HB5 := Lib.hid (show Below W.heap.size W (w4.alloc (.cells (ltC (numL z) o).toArray 33)) from HB4.out.alloc HB4.out.size _)
          have HL5 := Lib.hid (HL4.out.below ((Below.refl _ _).alloc (Nat.le_refl _) (.cells (ltC (numL z) o).toArray 33)))
          obtain ⟨w5, hw5⟩ : ∃ W, W = w4.alloc (.cells (ltC (numL z) o).toArray 33) := ⟨_, rfl⟩
          have HN5 := Lib.hid (show w5.heap[w4.heap.size]? = some (.cells (ltC (numL z) o).toArray 33 (0, 0)) by rw [hw5]; exact heap_alloc_new w4 _)
          rw [← hw5] at HB5 HL5
          have hw6 := hw5.symm
          clear hw5 HL4 HB4
          rw [hw6]
          clear hw6
          obtain ⟨_, y1, _⟩ := cells13 HN5.out
          have hzz : ((numL z).num == z) = true := by simp [numL]
          go_wp2
          exact ⟨⟨j + 1, by omega, by go_num, k' + 1, _, by omega, HL5, Lib.hid (by unfold qpop; rw [if_pos rfl, HQ1.out]; rfl), HB5⟩, by simp [intOf]; omega⟩
        · have hin : j = i := by omega
          subst hin
          have HQ0 := Lib.hid (show Q' (x, y) = [] by rw [HQj.out, ← HL.out, List.drop_length]; rfl)
          go_upto_region 19 with (go_at_call 14; refine Calls.mono (next_0 g b k' Q' x y wr HLj.out HX.out HQ0.out) ?_; (rintro e w4 ⟨rfl, hb4⟩; have HB4 := Lib.hid (HBj.out.trans (hb4.mono hzr)); clear hb4))
          have HB5 := Lib.hid (show Below W.heap.size W (w4.alloc (.cells (ltC Lt.zero ⟨none, 0, none, 0⟩).toArray 33)) from HB4.out.alloc HB4.out.size _)
          go_wp2_with (go_at_call 10; refine Calls.mono (alive_is _) ?_; (rintro e w2 ⟨rfl, hb2⟩; have HB6 := Lib.hid (HB0.out.trans ((HB5.out.trans (hb2.mono HB5.out.size)).mono (by omega))); clear hb2))
          go_ret
          exact ⟨rfl, HB6.out⟩
end Go.Proofs.Ytmflalnajinejaa.T
