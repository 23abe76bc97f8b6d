import Derived.Deep.DeepCutAuto
import Derived.Laws.OwnMore
import Derived.OwnWalk
import Derived.Lib.AppendStr
import Derived.Lib.SliceRun
import Derived.Lib.SmallJoins
import Derived.IntWalk
import Derived.WalkMore
import Derived.Lib.OthersKept
import Derived.Deep.LoopGhost
import Derived.Deep.RegionLaw
import Derived.Deep.AppendLies
import Derived.Test.YtmflalnajinejaaProg
import Derived.Test.YtmflalnajinejaaMem
import Derived.Test.YtmflalnajinejaaBlk
import Derived.Test.YtmflalnajinejaaAp
import Derived.Test.YtmflalnajinejaaKa
import Derived.Test.YtmflalnajinejaaKd
import Derived.Test.YtmflalnajinejaaKh
import Derived.Test.YtmflalnajinejaaKl
import Derived.Test.YtmflalnajinejaaKm
import Derived.Test.YtmflalnajinejaaKn
import Derived.Test.YtmflalnajinejaaOwn
import Derived.Maps.Range
import Derived.WalkKit
import Derived.Outline
import Derived.WalkLawsBesides
import Derived.Deep.QuietTactic
import Derived.BigQuiet
import Derived.Lib.Hide
import Derived.Handy
import Derived.Deep.RegionHeld3
import Derived.Deep.DrawnRows
import Derived.KernelRfl
import Derived.Great.Walk
import Derived.Test.YtmflalnajinejaaOwn
namespace Go.Proofs.Ytmflalnajinejaa.T
open Go Go.RowKit Go.Sort Mem Own
set_option maxRecDepth 100000
set_option maxHeartbeats 1000000
set_option linter.unusedVariables false
set_option linter.unusedSimpArgs false

open Go.WideMaps Go.Maps
theorem drew_grown {w w' : World} {row : Option Nat} (h : w.drew.grownBy w' row) : w.grownBy w' row := ⟨h.os, h.tape, h.output, h.size, h.block⟩
theorem LM.low {w w' : World} {b n B : Nat} {m : En → Option Value} (h : LM w b n m) (hb : Below B w w') (hlt : b < B) : LM w' b n m := by
  obtain ⟨D, ⟨es, ck, h1, h2⟩, h3⟩ := h
  exact ⟨D, ⟨es, ck, by rw [hb.block b hlt]; exact h1, h2⟩, h3⟩
theorem next_fin {w W w4 wf : World} {g b n N c bq off : Nat} {Q : En → List Lt} {x : En} {l : Lt} {r : List Lt} {o : Wh} {m : En → Option Value} {u : Option Value} (hN : N = r.length) (hM : LM w b n m) (hQ : Queues w m n Q) (hO : LtO w l o) (hG : W.grownBy w4 (some b)) (hbs : b < w.heap.size) (hB : Below w.heap.size w W) (hF : Below w.heap.size w4 wf)
    (hc : w.cell? ⟨g, 0, none⟩ = some (.map (some b))) (hLM : LM w4 b (n + 1) (upd m x u)) (hat : ∀ i (h : i < (l :: r).length), LtAt w bq (off + i * 13) (l :: r)[i]) (hq : Q x = l :: r) (h1 : N + 1 ≤ c) (h2 : c ≤ maxLen) (hu : (r = [] ∧ u = none) ∨ (r ≠ [] ∧ u = some (.slice (some ⟨bq, off + 13, none⟩) r.length (c - 1)))) :
    ∃ o', Ending.returned (.tuple #[ltV l o, .bool true]) = .returned (.tuple #[ltV l o', .bool true]) ∧ LtO wf l o' ∧ LK wf g b (n + 1) (qpop Q x) ∧ w.grownBy wf (some b) := by
  have g1 : w.grownBy w4 (some b) := World.grownBy.andThen (row := some b) (⟨hB.os, hB.tape, hB.output, hB.size, fun k hk _ => hB.block k hk⟩) hG (fun j e => .inr e)
  have g2 : w.grownBy wf (some b) := grown_below g1 hF
  obtain ⟨es, ck, he⟩ := hM.isMap
  have hk := keeps_grown he g2
  exact ⟨o, rfl, hO.keeps hk, ⟨hk _ _ hc, _, hLM.low hF hbs, queue_pop hQ hk hq (by omega) h2 hat hu⟩, g2⟩
theorem next_end {w W w4 : World} {g b n N c bq off : Nat} {Q : En → List Lt} {x : En} {l : Lt} {r : List Lt} {o : Wh} {m : En → Option Value} {u : Option Value} {u0 u1 u2 u3 u4 u5 u6 u7 u8 u9 u10 u11 u12 : Value} (hN : N = r.length) (hM : LM w b n m) (hQ : Queues w m n Q) (hO : LtO w l o) (hG : W.grownBy w4 (some b)) (hbs : b < w.heap.size) (hB : Below w.heap.size w W)
    (hc : w.cell? ⟨g, 0, none⟩ = some (.map (some b))) (hLM : LM w4 b (n + 1) (upd m x u)) (hat : ∀ i (h : i < (l :: r).length), LtAt w bq (off + i * 13) (l :: r)[i]) (hq : Q x = l :: r) (h1 : N + 1 ≤ c) (h2 : c ≤ maxLen) (hu : (r = [] ∧ u = none) ∨ (r ≠ [] ∧ u = some (.slice (some ⟨bq, off + 13, none⟩) r.length (c - 1)))) :
    ∃ o', Ending.returned (.tuple #[ltV l o, .bool true]) = .returned (.tuple #[ltV l o', .bool true]) ∧ LtO ((((((((((((((w4.setCell ⟨w.heap.size, 0, none⟩ u0).setCell ⟨w.heap.size, 1, none⟩ u1).setCell ⟨w.heap.size, 2, none⟩ u2).setCell ⟨w.heap.size, 3, none⟩ u3).setCell ⟨w.heap.size, 4, none⟩ u4).setCell ⟨w.heap.size, 5, none⟩ u5).setCell ⟨w.heap.size, 6, none⟩ u6).setCell ⟨w.heap.size, 7, none⟩ u7).setCell ⟨w.heap.size, 8, none⟩ u8).setCell ⟨w.heap.size, 9, none⟩ u9).setCell ⟨w.heap.size, 10, none⟩ u10).setCell ⟨w.heap.size, 11, none⟩ u11).setCell ⟨w.heap.size, 12, none⟩ u12)) l o' ∧ LK ((((((((((((((w4.setCell ⟨w.heap.size, 0, none⟩ u0).setCell ⟨w.heap.size, 1, none⟩ u1).setCell ⟨w.heap.size, 2, none⟩ u2).setCell ⟨w.heap.size, 3, none⟩ u3).setCell ⟨w.heap.size, 4, none⟩ u4).setCell ⟨w.heap.size, 5, none⟩ u5).setCell ⟨w.heap.size, 6, none⟩ u6).setCell ⟨w.heap.size, 7, none⟩ u7).setCell ⟨w.heap.size, 8, none⟩ u8).setCell ⟨w.heap.size, 9, none⟩ u9).setCell ⟨w.heap.size, 10, none⟩ u10).setCell ⟨w.heap.size, 11, none⟩ u11).setCell ⟨w.heap.size, 12, none⟩ u12)) g b (n + 1) (qpop Q x) ∧ w.grownBy ((((((((((((((w4.setCell ⟨w.heap.size, 0, none⟩ u0).setCell ⟨w.heap.size, 1, none⟩ u1).setCell ⟨w.heap.size, 2, none⟩ u2).setCell ⟨w.heap.size, 3, none⟩ u3).setCell ⟨w.heap.size, 4, none⟩ u4).setCell ⟨w.heap.size, 5, none⟩ u5).setCell ⟨w.heap.size, 6, none⟩ u6).setCell ⟨w.heap.size, 7, none⟩ u7).setCell ⟨w.heap.size, 8, none⟩ u8).setCell ⟨w.heap.size, 9, none⟩ u9).setCell ⟨w.heap.size, 10, none⟩ u10).setCell ⟨w.heap.size, 11, none⟩ u11).setCell ⟨w.heap.size, 12, none⟩ u12)) (some b) :=
  next_fin hN hM hQ hO hG hbs hB (below_sets13 (Below.refl _ _) (Nat.le_refl _)) hc hLM hat hq h1 h2 hu
set_option maxHeartbeats 4000000 in
theorem next_c (g b n : Nat) (Q : En → List Lt) (x y : Int) (w : World) (h : LK w g b n Q) (hx : En.wf (x, y)) (hn : n < maxLen) (l : Lt) (r : List Lt) (hq : Q (x, y) = l :: r) (hr : r ≠ []) :
    Calls Try.prog 14 #[.pointer (some ⟨g, 0, none⟩), .int .i64 x, .int .i64 y] w fun e w' => ∃ o, e = .returned (.tuple #[ltV l o, .bool true]) ∧ LtO w' l o ∧ LK w' g b (n + 1) (qpop Q (x, y)) ∧ w.grownBy w' (some b) := by
  have HN := Lib.hid (new2 w #[.int .i64 0, .int .i64 0, .int .i64 0, .int .i64 0, .string ⟨#[]⟩, .string ⟨#[]⟩, .slice none 0 0, .int .i64 0, .int .i64 0, .string ⟨#[]⟩, .slice none 0 0, .bool false, .int .i64 0] #[.int .i64 x, .int .i64 y] 33 40)
  obtain ⟨W, hW⟩ : ∃ W, W = (w.alloc (.cells #[.int .i64 0, .int .i64 0, .int .i64 0, .int .i64 0, .string ⟨#[]⟩, .string ⟨#[]⟩, .slice none 0 0, .int .i64 0, .int .i64 0, .string ⟨#[]⟩, .slice none 0 0, .bool false, .int .i64 0] 33)).alloc (.cells #[.int .i64 x, .int .i64 y] 40) := ⟨_, rfl⟩
  have HW := Lib.hid hW
  rw [← hW] at HN
  clear hW
  have HB := Lib.hid HN.out.2.2
  obtain ⟨hc0, m, hLM0, hQ0⟩ := h
  have hbl : b < w.heap.size := hLM0.isMap.elim fun _ h => h.elim fun _ h => lt_of_blk h
  have hLMd : LM W.drew b n m := hLM0.kept (below_grown HB.out.drew) (by simp)
  have hrun := hLMd.look hx
  obtain ⟨h4, ⟨_, h5⟩ | ⟨A, c, hm, _, h1, h2, h3⟩⟩ := hQ0 (x, y)
  · rw [hq] at h5; cases h5
  rw [hm] at hrun
  have hc' : W.cell? ⟨g, 0, none⟩ = some (.map (some b)) := cell_below HB.out hc0
  have hq3 : RdL w A (l :: r) := by rw [← hq]; exact h3
  obtain ⟨bq, off, rfl, hat⟩ := hq3.row (by simp)
  obtain ⟨o, hO, hcs⟩ := hat 0 (by simp)
  have HO := Lib.hid (show LtO w l o from hO)
  have HAT := Lib.hid hat
  have HM0 := Lib.hid hLM0
  have HQ := Lib.hid hQ0
  have HC0 := Lib.hid hc0
  simp only [Option.getD_some] at hrun
  rw [hq] at hrun
  obtain ⟨N, hN⟩ : ∃ N, N = r.length := ⟨_, rfl⟩
  have HNr := Lib.hid hN
  have hlr : (l :: r).length = N + 1 := by rw [hN]; rfl
  rw [hlr] at hrun
  rw [hq, hlr] at h1
  have hrun' : (Instr.lookup 51 (.map (some b)) (.agg #[.int .i64 x, .int .i64 y]) false).run Try.prog W.drew = .ok (.slice (some ⟨bq, off, none⟩) (N + 1) c) W.drew := hrun
  clear hrun h3 hq3 hN hlr hat hO hm h4
  have HCS := Lib.hid (show ∀ j u, (ltC l o)[j]? = some u → W.cell? ⟨bq, off + j, none⟩ = some u from lt_kept (by simpa using hcs) (keeps_below HB.out))
  clear hcs
  obtain ⟨k0, k1⟩ := cells2 HN.out.2.1
  have hN0 : 0 < N := by rw [HNr.out]; exact List.length_pos_iff.2 hr
  have hc1 : ¬ c = 1 := by omega
  obtain ⟨w3, hup, hLM3, hturn⟩ := (show LM W.drew.drew b n m from hLMd).put hn hx (.slice (some ⟨bq, off + 13, none⟩) N (c - 1))
  have hup' : (Instr.mapUpdate 51 (.map (some b)) (.agg #[.int .i64 x, .int .i64 y]) (.slice (some ⟨bq, off + 13, none⟩) N (c - 1))).run Try.prog W.drew.drew = .ok () w3 := hup
  have HT := Lib.hid hturn
  have HK3 := Lib.hid (turn_keeps hturn)
  have hq0 : w3.cell? ⟨g, 0, none⟩ = some (.map (some b)) := HK3.out _ _ hc'
  have hk0 := HK3.out _ _ k0
  have hk1 := HK3.out _ _ k1
  have HLM := Lib.hid hLM3
  have HBL := Lib.hid (turn_blk hturn (show W.drew.drew.heap[w.heap.size]? = _ from HN.out.1) (by omega))
  have HKK := Lib.hid (show Keeps W w3 from HK3.out)
  have HGR := Lib.hid (show W.grownBy w3 (some b) from drew_grown (drew_grown hturn.grown))
  clear hup hLM3 hturn hLMd hLM0 hQ0 hc0
  obtain ⟨r0, r1, r2, r3, r4, r5, r6, r7, r8, r9, r10, r11, r12⟩ := lt_cells (lt_kept HCS.out HKK.out)
  obtain ⟨z0, z1, z2, z3, z4, z5, z6, z7, z8, z9, z10, z11, z12⟩ := cells13 HBL.out
  obtain ⟨f0, f1, f2, f3, f4, f5, f6, f7, f8, f9, f10, f11, f12⟩ := frees13 HBL.out
  have HBS := Lib.hid hbl
  clear hbl
  have h0r : ((1 : Int) ≤ (N : Int) + 1) := by omega
  go_enter Try.func14, Try.ntmps14
  go_upto_region 2 with fail
  rw [← HW.out]
  go_region_with fail
  all_goals
    go_wp2_with fail
    go_region_with fail
    all_goals
      go_wp2_with fail
      refine wp_ret_next rfl rfl rfl (sets13 _ _ _ _ _ _ _ _ _ _ _ _ _ HBL.out) ?_
      exact next_end HNr.out HM0.out HQ.out HO.out HGR.out HBS.out HB.out HC0.out HLM.out HAT.out hq h1 h2 (.inr ⟨hr, by rw [HNr.out]⟩)
end Go.Proofs.Ytmflalnajinejaa.T
