import Derived.Deep.DeepCutAuto
import Derived.Laws.OwnMore
import Derived.OwnWalk
import Derived.Lib.AppendStr
import Derived.Lib.SliceRun
import Derived.Lib.SmallJoins
import Derived.IntWalk
import Derived.WalkMore
import Derived.Lib.OthersKept
import Derived.Deep.LoopGhost
import Derived.Deep.RegionLaw
import Derived.Deep.AppendLies
import Derived.Test.YtmflalnajinejaaProg
import Derived.Test.YtmflalnajinejaaMem
import Derived.Test.YtmflalnajinejaaBlk
import Derived.Test.YtmflalnajinejaaAp
import Derived.Test.YtmflalnajinejaaKa
import Derived.Test.YtmflalnajinejaaKd
import Derived.Test.YtmflalnajinejaaKh
import Derived.Test.YtmflalnajinejaaKl
import Derived.Test.YtmflalnajinejaaKm
import Derived.Test.YtmflalnajinejaaKn
import Derived.Test.YtmflalnajinejaaKo
import Derived.Test.YtmflalnajinejaaOwn
import Derived.Maps.Range
import Derived.WalkKit
import Derived.Outline
import Derived.WalkLawsBesides
import Derived.Deep.QuietTactic
import Derived.BigQuiet
import Derived.Lib.Hide
import Derived.Handy
import Derived.Deep.RegionHeld3
import Derived.Deep.DrawnRows
import Derived.KernelRfl
import Derived.Great.Walk
import Derived.Test.YtmflalnajinejaaOwn
namespace Go.Proofs.Ytmflalnajinejaa.T
open Go Go.RowKit Go.Sort Mem Own
set_option maxRecDepth 100000
set_option maxHeartbeats 1000000
set_option linter.unusedVariables false
set_option linter.unusedSimpArgs false

open Go.WideMaps Go.Maps
set_option maxHeartbeats 4000000 in
theorem next_a (g b n : Nat) (Q : En → List Lt) (x y : Int) (w : World) (h : LK w g b n Q) (hx : En.wf (x, y)) (hn : n < maxLen) (l : Lt) (r : List Lt) (hq : Q (x, y) = l :: r) (hr : r = []) :
    Calls Try.prog 14 #[.pointer (some ⟨g, 0, none⟩), .int .i64 x, .int .i64 y] w fun e w' => ∃ o, e = .returned (.tuple #[ltV l o, .bool true]) ∧ LtO w' l o ∧ LK w' g b (n + 1) (qpop Q (x, y)) ∧ w.grownBy w' (some b) := by
  have HN := Lib.hid (new2 w #[.int .i64 0, .int .i64 0, .int .i64 0, .int .i64 0, .string ⟨#[]⟩, .string ⟨#[]⟩, .slice none 0 0, .int .i64 0, .int .i64 0, .string ⟨#[]⟩, .slice none 0 0, .bool false, .int .i64 0] #[.int .i64 x, .int .i64 y] 33 40)
  obtain ⟨W, hW⟩ : ∃ W, W = (w.alloc (.cells #[.int .i64 0, .int .i64 0, .int .i64 0, .int .i64 0, .string ⟨#[]⟩, .string ⟨#[]⟩, .slice none 0 0, .int .i64 0, .int .i64 0, .string ⟨#[]⟩, .slice none 0 0, .bool false, .int .i64 0] 33)).alloc (.cells #[.int .i64 x, .int .i64 y] 40) := ⟨_, rfl⟩
  have HW := Lib.hid hW
  rw [← hW] at HN
  clear hW
  have HB := Lib.hid HN.out.2.2
  obtain ⟨hc0, m, hLM0, hQ0⟩ := h
  have hbl : b < w.heap.size := hLM0.isMap.elim fun _ h => h.elim fun _ h => lt_of_blk h
  have hLMd : LM W.drew b n m := hLM0.kept (below_grown HB.out.drew) (by simp)
  have hrun := hLMd.look hx
  obtain ⟨h4, ⟨_, h5⟩ | ⟨A, c, hm, _, h1, h2, h3⟩⟩ := hQ0 (x, y)
  · rw [hq] at h5; cases h5
  rw [hm] at hrun
  have hc' : W.cell? ⟨g, 0, none⟩ = some (.map (some b)) := cell_below HB.out hc0
  have hq3 : RdL w A (l :: r) := by rw [← hq]; exact h3
  obtain ⟨bq, off, rfl, hat⟩ := hq3.row (by simp)
  obtain ⟨o, hO, hcs⟩ := hat 0 (by simp)
  have HO := Lib.hid (show LtO w l o from hO)
  have HAT := Lib.hid hat
  have HM0 := Lib.hid hLM0
  have HQ := Lib.hid hQ0
  have HC0 := Lib.hid hc0
  simp only [Option.getD_some] at hrun
  rw [hq] at hrun
  obtain ⟨N, hN⟩ : ∃ N, N = r.length := ⟨_, rfl⟩
  have HNr := Lib.hid hN
  have hlr : (l :: r).length = N + 1 := by rw [hN]; rfl
  rw [hlr] at hrun
  rw [hq, hlr] at h1
  have hrun' : (Instr.lookup 51 (.map (some b)) (.agg #[.int .i64 x, .int .i64 y]) false).run Try.prog W.drew = .ok (.slice (some ⟨bq, off, none⟩) (N + 1) c) W.drew := hrun
  clear hrun h3 hq3 hN hlr hat hO hm h4
  have HCS := Lib.hid (show ∀ j u, (ltC l o)[j]? = some u → W.cell? ⟨bq, off + j, none⟩ = some u from lt_kept (by simpa using hcs) (keeps_below HB.out))
  clear hcs
  obtain ⟨k0, k1⟩ := cells2 HN.out.2.1
  have hN0 : N = 0 := by rw [HNr.out, hr]; rfl
  subst hN0
  by_cases hc1 : c = 1
  · subst hc1
    obtain ⟨w3, hup, hLM3, hturn⟩ := (show LM W.drew.drew b n m from hLMd).put hn hx (.slice (some ⟨bq, off, none⟩) 0 0)
    have hup' : (Instr.mapUpdate 51 (.map (some b)) (.agg #[.int .i64 x, .int .i64 y]) (.slice (some ⟨bq, off, none⟩) 0 0)).run Try.prog W.drew.drew = .ok () w3 := hup
    have HT := Lib.hid hturn
    have HK3 := Lib.hid (turn_keeps hturn)
    have hq0 : w3.cell? ⟨g, 0, none⟩ = some (.map (some b)) := HK3.out _ _ hc'
    have hk0 := HK3.out _ _ k0
    have hk1 := HK3.out _ _ k1
    obtain ⟨w4, hde, hLM4, hturn4⟩ := (show LM w3.drew b (n + 1) _ from hLM3).del hx 0
    have hde' : (Builtin.delete_ #[51, 40] 0 #[.map (some b), .agg #[.int .i64 x, .int .i64 y]]).run Try.prog w3.drew = .ok (.tuple #[]) w4 := hde
    rw [upd2] at hLM4
    have HT4 := Lib.hid hturn4
    have HK4 := Lib.hid (show Keeps w3.drew w4 from turn_keeps hturn4)
    have HLM := Lib.hid hLM4
    have hb3 := turn_blk (k := w.heap.size) (b := b) hturn (show W.drew.drew.heap[w.heap.size]? = _ from HN.out.1) (Nat.ne_of_gt hbl)
    have HBL := Lib.hid (turn_blk (k := w.heap.size) (b := b) hturn4 (show w3.drew.heap[w.heap.size]? = _ from hb3) (Nat.ne_of_gt hbl))
    clear hb3
    have HKK := Lib.hid (show Keeps W w4 from Keeps.trans (b := w3) HK3.out HK4.out)
    have HGR := Lib.hid (show W.grownBy w4 (some b) from drew_grown (drew_grown (World.grownBy.andThen hturn.grown (drew_grown hturn4.grown) (fun j e => .inr e))))
    clear hup hde hLM3 hLM4 hturn hturn4 hLMd hLM0 hQ0 hc0
    obtain ⟨r0, r1, r2, r3, r4, r5, r6, r7, r8, r9, r10, r11, r12⟩ := lt_cells (lt_kept HCS.out HKK.out)
    obtain ⟨z0, z1, z2, z3, z4, z5, z6, z7, z8, z9, z10, z11, z12⟩ := cells13 HBL.out
    obtain ⟨f0, f1, f2, f3, f4, f5, f6, f7, f8, f9, f10, f11, f12⟩ := frees13 HBL.out
    have HBS := Lib.hid hbl
    clear hbl
    go_enter Try.func14, Try.ntmps14
    go_upto_region 2 with fail
    rw [← HW.out]
    go_region_with fail
    all_goals
      go_wp2_with fail
      go_region_with fail
      all_goals
        go_wp2_with fail
        go_region_with fail
        all_goals
          go_wp2
          refine wp_ret_next rfl rfl rfl (sets13 _ _ _ _ _ _ _ _ _ _ _ _ _ HBL.out) ?_
          exact next_end HNr.out HM0.out HQ.out HO.out HGR.out HBS.out HB.out HC0.out HLM.out HAT.out hq h1 h2 (.inl ⟨hr, rfl⟩)
  · have hc2 : 2 ≤ c := by omega
    obtain ⟨w3, hup, hLM3, hturn⟩ := (show LM W.drew.drew b n m from hLMd).put hn hx (.slice (some ⟨bq, off + 13, none⟩) 0 (c - 1))
    have hup' : (Instr.mapUpdate 51 (.map (some b)) (.agg #[.int .i64 x, .int .i64 y]) (.slice (some ⟨bq, off + 13, none⟩) 0 (c - 1))).run Try.prog W.drew.drew = .ok () w3 := hup
    have HT := Lib.hid hturn
    have HK3 := Lib.hid (turn_keeps hturn)
    have hq0 : w3.cell? ⟨g, 0, none⟩ = some (.map (some b)) := HK3.out _ _ hc'
    have hk0 := HK3.out _ _ k0
    have hk1 := HK3.out _ _ k1
    obtain ⟨w4, hde, hLM4, hturn4⟩ := (show LM w3.drew b (n + 1) _ from hLM3).del hx 0
    have hde' : (Builtin.delete_ #[51, 40] 0 #[.map (some b), .agg #[.int .i64 x, .int .i64 y]]).run Try.prog w3.drew = .ok (.tuple #[]) w4 := hde
    rw [upd2] at hLM4
    have HT4 := Lib.hid hturn4
    have HK4 := Lib.hid (show Keeps w3.drew w4 from turn_keeps hturn4)
    have HLM := Lib.hid hLM4
    have hb3 := turn_blk (k := w.heap.size) (b := b) hturn (show W.drew.drew.heap[w.heap.size]? = _ from HN.out.1) (Nat.ne_of_gt hbl)
    have HBL := Lib.hid (turn_blk (k := w.heap.size) (b := b) hturn4 (show w3.drew.heap[w.heap.size]? = _ from hb3) (Nat.ne_of_gt hbl))
    clear hb3
    have HKK := Lib.hid (show Keeps W w4 from Keeps.trans (b := w3) HK3.out HK4.out)
    have HGR := Lib.hid (show W.grownBy w4 (some b) from drew_grown (drew_grown (World.grownBy.andThen hturn.grown (drew_grown hturn4.grown) (fun j e => .inr e))))
    clear hup hde hLM3 hLM4 hturn hturn4 hLMd hLM0 hQ0 hc0
    obtain ⟨r0, r1, r2, r3, r4, r5, r6, r7, r8, r9, r10, r11, r12⟩ := lt_cells (lt_kept HCS.out HKK.out)
    obtain ⟨z0, z1, z2, z3, z4, z5, z6, z7, z8, z9, z10, z11, z12⟩ := cells13 HBL.out
    obtain ⟨f0, f1, f2, f3, f4, f5, f6, f7, f8, f9, f10, f11, f12⟩ := frees13 HBL.out
    have HBS := Lib.hid hbl
    clear hbl
    go_enter Try.func14, Try.ntmps14
    go_upto_region 2 with fail
    rw [← HW.out]
    go_region_with fail
    all_goals
      go_wp2_with fail
      go_region_with fail
      all_goals
        go_wp2_with fail
        go_region_with fail
        all_goals
          go_wp2
          refine wp_ret_next rfl rfl rfl (sets13 _ _ _ _ _ _ _ _ _ _ _ _ _ HBL.out) ?_
          exact next_end HNr.out HM0.out HQ.out HO.out HGR.out HBS.out HB.out HC0.out HLM.out HAT.out hq h1 h2 (.inl ⟨hr, rfl⟩)
end Go.Proofs.Ytmflalnajinejaa.T
