import Derived.Deep.DeepCutAuto
import Derived.Laws.OwnMore
import Derived.OwnWalk
import Derived.Lib.AppendStr
import Derived.Lib.SliceRun
import Derived.Lib.SmallJoins
import Derived.IntWalk
import Derived.WalkMore
import Derived.Lib.OthersKept
import Derived.Deep.LoopGhost
import Derived.Deep.RegionLaw
import Derived.Deep.AppendLies
import Derived.Test.YtmflalnajinejaaProg
import Derived.Test.YtmflalnajinejaaMem
import Derived.Test.YtmflalnajinejaaBlk
import Derived.Test.YtmflalnajinejaaAp
import Derived.Test.YtmflalnajinejaaKa
import Derived.Test.YtmflalnajinejaaKc
import Derived.Test.YtmflalnajinejaaKd
import Derived.Test.YtmflalnajinejaaKe
import Derived.Test.YtmflalnajinejaaKh
import Derived.Test.YtmflalnajinejaaKi
import Derived.Test.YtmflalnajinejaaKj
import Derived.Test.YtmflalnajinejaaKl
import Derived.Test.YtmflalnajinejaaKm
import Derived.Test.YtmflalnajinejaaKn
import Derived.Test.YtmflalnajinejaaKo
import Derived.Test.YtmflalnajinejaaKp
import Derived.Test.YtmflalnajinejaaKr
import Derived.Test.YtmflalnajinejaaKs
import Derived.Test.YtmflalnajinejaaKx
import Derived.Test.YtmflalnajinejaaKy
import Derived.Test.YtmflalnajinejaaLa
import Derived.Test.YtmflalnajinejaaLb
import Derived.Test.YtmflalnajinejaaMa
import Derived.Test.YtmflalnajinejaaMb
import Derived.Test.YtmflalnajinejaaMc
import Derived.Test.YtmflalnajinejaaMd
import Derived.Test.YtmflalnajinejaaMf
import Derived.Test.YtmflalnajinejaaNa
import Derived.Test.YtmflalnajinejaaNd
import Derived.Test.YtmflalnajinejaaNe
import Derived.Test.YtmflalnajinejaaNi
import Derived.WalkKit
import Derived.Outline
import Derived.WalkLawsBesides
import Derived.Deep.QuietTactic
import Derived.BigQuiet
import Derived.Lib.Hide
import Derived.Handy
import Derived.Deep.RegionHeld3
import Derived.Deep.DrawnRows
import Derived.KernelRfl
import Derived.Great.Walk
import Derived.Test.YtmflalnajinejaaOwn
namespace Go.Proofs.Ytmflalnajinejaa.T
open Go Go.RowKit Go.Sort Mem Own
set_option maxRecDepth 100000
set_option maxHeartbeats 1000000
set_option linter.unusedVariables false
set_option linter.unusedSimpArgs false

open Go.WideMaps Go.Maps
theorem cat_no {s : ByteArray} (h : s.size ≤ 140737488355328) : ¬ (9223372036854775807 < s.size + 1) := by omega
theorem blk_own {w w' : World} {B g T sz n : Nat} {v : Value} {xs : List Value} (h : w.ownsRow B T sz v n xs) (hg : w.grownBy w' (some g)) (hlt : g < B) : w'.ownsRow B T sz v n xs :=
  own_keep h fun k hk o ho => by rw [hg.block k (h.lt k hk).2 (fun e => by have := (h.lt k hk).1; injection e with e; omega)]; exact ho
theorem rdt_rep {w : World} {A : Option Addr} {x : T} (h : RdA w A x.l) : RdT w A x := by cases x; exact h
theorem grown_set (w : World) (b i : Nat) (v : Value) : w.grownBy (w.setCell ⟨b, i, none⟩ v) (some b) :=
  ⟨rfl, rfl, rfl, by simp, fun k _ hk => heap_setCell_other w ⟨b, i, none⟩ k v (fun e => hk (by simp [e]))⟩
theorem opd_mem {x y : T} (h : Opd x) (hy : y ∈ x.l) : y.t.size ≤ 140737488355328 := by
  cases h with
  | mk h1 h2 h3 => cases h3 y hy with | mk g1 _ _ => exact g1
set_option maxHeartbeats 16000000 in
/-- law18.LinksKeep -/
theorem keep_is (l : Lt) (o : Wh) (w : World) (hO : LtO w l o) (hopl : Opl l) :
    Calls Try.prog 5 #[ltV l o] w fun e w' => e = .returned (.bool true) ∧ Below w.heap.size w w' := by
  have HN := Lib.hid (new1 w (ltC l o).toArray 33)
  obtain ⟨W, hW⟩ : ∃ W, W = w.alloc (.cells (ltC l o).toArray 33) := ⟨_, rfl⟩
  have HW := Lib.hid hW.symm
  rw [← hW] at HN
  clear hW
  have HB0 := Lib.hid HN.out.2
  have HO := Lib.hid (hO.keeps (keeps_below HB0.out))
  have HP := Lib.hid hopl
  have HFW := Lib.hid (few_all (l := [⟨0, (0, 0), l⟩]))
  have HFC := Lib.hid (fun (wx : World) (hb : Below W.heap.size W wx) (G : Nat) (hG : wx.heap[G]? = some (.cells (oxC ⟨0, (0, 0), l⟩ o) 35 (0, 0))) => few_is [⟨0, (0, 0), l⟩] (some ⟨G, 0, none⟩) 1 1 wx rfl (.inr ⟨G, 0, rfl, fun i hi => by
    have hi0 : i = 0 := by simp at hi; omega
    subst hi0
    refine ⟨of_blk hG 0, of_blk hG 1, of_blk hG 2, o, HO.out.keeps (keeps_below hb), fun j u e => ?_⟩
    have hj : j < 13 := by have := (List.getElem?_eq_some_iff.1 e).1; rwa [ltC_len] at this
    rw [show 0 + 0 * 16 + 3 + j = 3 + j by omega, of_blk hG (3 + j), ← e, Nat.add_comm 3 j, show oxC ⟨0, (0, 0), l⟩ o = (.int .i64 0 :: .int .i64 0 :: .int .i64 0 :: ltC l o : List Value).toArray from rfl, List.getElem?_toArray]
    rfl⟩))
  clear hO hopl
  generalize fewB [⟨0, (0, 0), l⟩] = sb at HFW HFC
  obtain ⟨x0, x1, x2, x3, x4, x5, x6, x7, x8, x9, x10, x11, x12⟩ := cells13 HN.out.1
  go_enter Try.func5, Try.ntmps5
  go_upto_region 1 with fail
  rw [HW.out]
  go_upto_region 2 with (go_at_call 8; refine Calls.mono (new_is _) ?_; (rintro e w1 ⟨g, b, rfl, hL, hb, hg, hbb⟩; have HLK := Lib.hid hL; have HB := Lib.hid hb; have HG := Lib.hid hg; have HBB := Lib.hid hbb; clear hL hb hg hbb))
  have y0 := cell_below HB.out x0
  have y1 := cell_below HB.out x1
  have y2 := cell_below HB.out x2
  have y3 := cell_below HB.out x3
  have y4 := cell_below HB.out x4
  have y5 := cell_below HB.out x5
  have y6 := cell_below HB.out x6
  have y7 := cell_below HB.out x7
  have y8 := cell_below HB.out x8
  have y9 := cell_below HB.out x9
  have y10 := cell_below HB.out x10
  have y11 := cell_below HB.out x11
  have y12 := cell_below HB.out x12
  clear x0 x1 x2 x3 x4 x5 x6 x7 x8 x9 x10 x11 x12
  cases sb with
  | false =>
    go_wp2_with (first
      | (go_at_call 9; refine Calls.mono (HFC.out _ (HB.out.alloc HB.out.size _) _ (heap_alloc_new _ _)) ?_; (rintro e w2 ⟨rfl, hb2⟩; have HB2 := Lib.hid ((HB.out.alloc HB.out.size _).trans (hb2.mono (HB.out.alloc HB.out.size _).size)); clear hb2))
      | (go_at_call 10; refine Calls.mono (alive_is _) ?_; (rintro e w3 ⟨rfl, hb3⟩; have HB3 := Lib.hid (HB0.out.trans ((HB2.out.trans (hb3.mono HB2.out.size)).mono HB0.out.size)); clear hb3)))
    go_ret
    exact ⟨rfl, HB3.out⟩
  | true =>
    have HF := Lib.hid ((HFW.out rfl).2 _ (List.mem_singleton.2 rfl))
    go_upto_region 4 with (go_at_call 9; refine Calls.mono (HFC.out _ (HB.out.alloc HB.out.size _) _ (heap_alloc_new _ _)) ?_; (rintro e w2 ⟨rfl, hb2⟩; have HB2 := Lib.hid ((HB.out.alloc HB.out.size _).trans (hb2.mono (HB.out.alloc HB.out.size _).size)); have HL2 := Lib.hid ((HLK.out.below ((Below.refl _ _).alloc (Nat.le_refl _) _)).below hb2); clear hb2))
    clear y0 y1 y2 y3 y4 y5 y6 y7 y8 y9 y10 y11 y12 HFC HFW HLK HB
    have HB1 := Lib.hid (keep_blk HB2.out HN.out.1)
    obtain ⟨z0, z1, z2, z3, z4, z5, z6, z7, z8, z9, z10, z11, z12⟩ := cells13 HB1.out
    go_upto_region 5 with fail
    have HN3 := Lib.hid (heap_alloc_new w2 (.cells (ltC l o).toArray 33))
    have HB3 := Lib.hid (HB2.out.alloc HB2.out.size (.cells (ltC l o).toArray 33))
    have HC3 := Lib.hid (show Below w2.heap.size w2 (w2.alloc (.cells (ltC l o).toArray 33)) from (Below.refl _ _).alloc (Nat.le_refl _) _)
    have hz3 := alloc_sz w2 (.cells (ltC l o).toArray 33)
    obtain ⟨w3, hw3⟩ : ∃ w3, w3 = w2.alloc (.cells (ltC l o).toArray 33) := ⟨_, rfl⟩
    rw [← hw3] at HN3 HB3 HC3 hz3
    have hw4 := hw3.symm
    clear hw3 z0 z1 z2 z3 z4 z5 z6 z7 z8 z9 z10 z11 z12 HB1
    rw [hw4]
    clear hw4
    have HZ3 := Lib.hid hz3
    clear hz3
    have hBW : w.heap.size < W.heap.size := lt_of_blk HN.out.1
    have HBW := Lib.hid hBW
    clear hBW
    have HO3 := Lib.hid (HO.out.keeps (keeps_below HB3.out))
    have HB1 := Lib.hid (keep_blk HB3.out HN.out.1)
    obtain ⟨z0, z1, z2, z3, z4, z5, z6, z7, z8, z9, z10, z11, z12⟩ := cells13 HB1.out
    obtain ⟨nA, hnA⟩ : ∃ nA, nA = l.args.length := ⟨_, rfl⟩
    have HNA := Lib.hid hnA.symm
    have hA100 : nA ≤ 100 := by rw [hnA]; exact HF.out.2
    have z6' : w3.cell? ⟨w.heap.size, 6, none⟩ = some (.slice o.a nA o.ac) := by rw [hnA]; exact z6
    have HAP := Lib.hid (app_texts w3 w3.heap.size (Nat.le_refl _) o.a l.args nA o.ac HNA.out HO3.out.1 (by omega))
    clear z0 z1 z2 z3 z4 z5 z6 z7 z8 z9 z10 z11 z12 hnA
    have hlt3 : w.heap.size < w3.heap.size := lt_of_cell z6'
    go_upto_region 6 with (at_builtin; refine Own.wpList_append_ex rfl (.tmp 25) (.tmp 27) 28 28 rfl (.slice (some ⟨_, 0, none⟩) 0 0) (.slice o.a nA o.ac) rfl rfl _ HAP.out ?_; (rintro v5 w5 ⟨ho5, hb5⟩; have HO5 := Lib.hid ho5; have HB5 := Lib.hid hb5; have HX5 := Lib.hid (keep_blk hb5 HN3.out); clear ho5 hb5; obtain ⟨c0, c1, c2, c3, c4, c5, c6, c7, c8, c9, c10, c11, c12⟩ := cells13 HX5.out; obtain ⟨f0, f1, f2, f3, f4, f5, f6, f7, f8, f9, f10, f11, f12⟩ := frees13 HX5.out; obtain ⟨A5, q5, hv5⟩ := own_sl HO5.out; subst hv5))
    have hB4 : w2.heap.size < w3.heap.size := lt_of_blk HN3.out
    have HC5 := Lib.hid (show Below w2.heap.size w2 w5 from HC3.out.trans (HB5.out.mono (by omega)))
    have HC6 := Lib.hid (show Below w2.heap.size w2 (w5.setCell ⟨w2.heap.size, 6, none⟩ (.slice A5 nA q5)) from HC5.out.setCell (p := ⟨w2.heap.size, 6, none⟩) (Nat.le_refl _) _)
    have HG6 := Lib.hid (grown_set w5 w2.heap.size 6 (.slice A5 nA q5))
    have HN6 := Lib.hid (show (w5.setCell ⟨w2.heap.size, 6, none⟩ (.slice A5 nA q5)).heap[w2.heap.size]? = some (.cells (ltC l ⟨A5, q5, o.r, o.rc⟩).toArray 33 (0, 0)) by
      have h1 := blk_set (i := 6) HX5.out (.slice A5 nA q5)
      rw [h1, ← HNA.out]; rfl)
    have HO6 := Lib.hid (blk_own HO5.out HG6.out hB4)
    obtain ⟨w6, hw6⟩ : ∃ w6, w6 = w5.setCell ⟨w2.heap.size, 6, none⟩ (.slice A5 nA q5) := ⟨_, rfl⟩
    rw [← hw6] at HC6 HG6 HN6 HO6
    have hw7 := hw6.symm
    clear hw6 HG6 HO5 HX5 c0 c1 c2 c3 c4 c5 c6 c7 c8 c9 c10 c11 c12 f0 f1 f2 f3 f4 f5 f6 f7 f8 f9 f10 f11 f12 z6' HAP HB1
    rw [hw7]
    clear hw7
    have hlt6 : w.heap.size < w6.heap.size := by have := HC6.out.size; have := HB2.out.size; have := HBW.out; omega
    have HB6 := Lib.hid (HB2.out.trans (HC6.out.mono HB2.out.size))
    have HO7 := Lib.hid (HO.out.keeps (keeps_below HB6.out))
    have HB1 := Lib.hid (keep_blk HB6.out HN.out.1)
    obtain ⟨z0, z1, z2, z3, z4, z5, z6, z7, z8, z9, z10, z11, z12⟩ := cells13 HB1.out
    obtain ⟨nL, hnL⟩ : ∃ nL, nL = l.rep.l.length := ⟨_, rfl⟩
    have HNL := Lib.hid hnL.symm
    have hL50 : nL ≤ 50 := by rw [hnL]; exact HF.out.1.len
    have z10' : w6.cell? ⟨w.heap.size, 10, none⟩ = some (.slice o.r nL o.rc) := by rw [hnL]; exact z10
    obtain ⟨xs, hx1, hx2, hx3, hx4⟩ := rep_cells HO.out.2.rda
    have hx1' : xs.length = nL * 4 := by rw [HNL.out] at hx1; exact hx1
    have HXL := Lib.hid hx1'
    have HXS := Lib.hid hx4
    have HAP := Lib.hid (app_reps w6 w6.heap.size (Nat.le_refl _) o.r nL o.rc xs hx1' hx2 (fun j u e => by obtain ⟨a, e1, e2⟩ := hx3 j u e; exact ⟨a, e1, cell_below HB6.out e2⟩) (by omega))
    clear z0 z1 z2 z3 z4 z5 z6 z7 z8 z9 z10 z11 z12 hnL hx1 hx1' hx2 hx3 hx4
    have hB6 : w2.heap.size < w6.heap.size := lt_of_blk HN6.out
    go_upto_region 7 with (at_builtin; refine Own.wpList_append_ex rfl (.tmp 30) (.tmp 33) 29 29 rfl (.slice (some ⟨_, 0, none⟩) 0 0) (.slice o.r nL o.rc) rfl rfl _ HAP.out ?_; (rintro v8 w8 ⟨ho8, hb8⟩; have HO8 := Lib.hid ho8; have HB8 := Lib.hid hb8; have HX8 := Lib.hid (keep_blk hb8 HN6.out); clear ho8 hb8; obtain ⟨c0, c1, c2, c3, c4, c5, c6, c7, c8, c9, c10, c11, c12⟩ := cells13 HX8.out; obtain ⟨f0, f1, f2, f3, f4, f5, f6, f7, f8, f9, f10, f11, f12⟩ := frees13 HX8.out; obtain ⟨A8, q8, hv8⟩ := own_sl HO8.out; subst hv8))
    have HC9 := Lib.hid (show Below w2.heap.size w2 (w8.setCell ⟨w2.heap.size, 10, none⟩ (.slice A8 nL q8)) from (HC6.out.trans (HB8.out.mono (by omega))).setCell (p := ⟨w2.heap.size, 10, none⟩) (Nat.le_refl _) _)
    have HG9 := Lib.hid (grown_set w8 w2.heap.size 10 (.slice A8 nL q8))
    have HN9 := Lib.hid (show (w8.setCell ⟨w2.heap.size, 10, none⟩ (.slice A8 nL q8)).heap[w2.heap.size]? = some (.cells (ltC l ⟨A5, q5, A8, q8⟩).toArray 33 (0, 0)) by
      have h1 := blk_set (i := 10) HX8.out (.slice A8 nL q8)
      rw [h1, ← HNL.out]; rfl)
    have HO9 := Lib.hid (blk_own HO8.out HG9.out hB6)
    have HA9 := Lib.hid (blk_own (own_below HO6.out HB8.out) HG9.out hB4)
    have hga : ∀ g, A5 = some ⟨g, 0, none⟩ → g < w6.heap.size := fun g e => (HO6.out.lt g (by rw [e]; rfl)).2
    have HGA := Lib.hid hga
    obtain ⟨w9, hw9⟩ : ∃ w9, w9 = w8.setCell ⟨w2.heap.size, 10, none⟩ (.slice A8 nL q8) := ⟨_, rfl⟩
    have HZ69 := Lib.hid (show w6.heap.size ≤ (w8.setCell ⟨w2.heap.size, 10, none⟩ (.slice A8 nL q8)).heap.size by simp only [World.setCell, Array.size_modify]; exact HB8.out.size)
    rw [← hw9] at HC9 HN9 HO9 HA9 HZ69
    have hw10 := hw9.symm
    clear hw9 HG9 HO8 HX8 c0 c1 c2 c3 c4 c5 c6 c7 c8 c9 c10 c11 c12 f0 f1 f2 f3 f4 f5 f6 f7 f8 f9 f10 f11 f12 z10' HAP HB1 hga
    rw [hw10]
    clear hw10
    have HB9 := Lib.hid (HB2.out.trans (HC9.out.mono HB2.out.size))
    have HLO := Lib.hid (show LtO w9 l ⟨A5, q5, A8, q8⟩ from ⟨own_txt HA9.out HNA.out, rdt_rep (own_rep HO9.out HNL.out (keeps_below HB9.out) HXS.out)⟩)
    have hbb : b < w2.heap.size := HL2.out.isMap.elim fun _ h => h.elim fun _ h => lt_of_blk h
    have hgg : g < w2.heap.size := lt_of_cell HL2.out.cell
    have HSD := Lib.hid (send_is g b 0 (fun _ => []) 0 1 l ⟨A5, q5, A8, q8⟩ w9 (HL2.out.below HC9.out) ⟨by decide, by decide⟩ (by omega) HLO.out HF.out.1 (Nat.le_trans HF.out.2 (by omega)))
    obtain ⟨d0, d1, d2, d3, d4, d5, d6, d7, d8, d9, d10, d11, d12⟩ := cells13 HN9.out
    go_upto_region 8 with (go_at_call 13; refine Calls.mono HSD.out ?_; (rintro e s1 ⟨rfl, hL, hgr, hcn⟩; have HLS := Lib.hid hL; have HGS := Lib.hid hgr; have HCN := Lib.hid (hcn (fun _ => rfl)); clear hL hgr hcn))
    have hsB : Below W.heap.size W s1 := below_turn HB9.out HGS.out HBB.out HB9.out.size
    have HSB := Lib.hid hsB
    have HB6z := Lib.hid hB6
    have HA1 := Lib.hid (blk_own HA9.out HGS.out (show b < w3.heap.size by omega))
    have HO1 := Lib.hid (blk_own HO9.out HGS.out (show b < w6.heap.size by omega))
    have HN1 := Lib.hid (show s1.heap[w2.heap.size]? = some (.cells (ltC l ⟨A5, q5, A8, q8⟩).toArray 33 (0, 0)) by rw [HGS.out.block _ (lt_of_blk HN9.out) (by simp; omega)]; exact HN9.out)
    have HZ9 := Lib.hid (show w6.heap.size ≤ w9.heap.size ∧ w2.heap.size < w9.heap.size from ⟨HZ69.out, lt_of_blk HN9.out⟩)
    have HAT := Lib.hid HP.out.each
    have HGL := Lib.hid (show ∀ g, A8 = some ⟨g, 0, none⟩ → g < w9.heap.size from fun g e => (HO9.out.lt g (by rw [e]; rfl)).2)
    clear d0 d1 d2 d3 d4 d5 d6 d7 d8 d9 d10 d11 d12 HSD HLO hsB hB6
    have hB4' := hB4
    obtain ⟨d0, d1, d2, d3, d4, d5, d6, d7, d8, d9, d10, d11, d12⟩ := cells13 HN1.out
    rw [HNA.out] at d6
    clear d0 d1 d2 d3 d4 d5 d7 d8 d9 d10 d11 d12
    go_wp2_with fail
    go_loopw [43] (fun s43 wr => ∃ i : Nat, i ≤ nA ∧ s43 = .int .i64 i ∧ ∃ ys : List Value, RowKit.Hid (wr.ownsRow w3.heap.size 9 1 (.slice A5 nA q5) nA ys) ∧ RowKit.Hid (∀ j, i ≤ j → j < nA → ∃ s, ys[j]? = some (.string s) ∧ s.size ≤ 140737488355328) ∧ RowKit.Hid (KeepsFrom w9.heap.size s1 wr) ∧ RowKit.Hid (Below w2.heap.size s1 wr) ∧ RowKit.Hid (wr.heap[w2.heap.size]? = some (.cells (ltC l ⟨A5, q5, A8, q8⟩).toArray 33 (0, 0))) ∧ RowKit.Hid (wr.ownsRow w6.heap.size 31 4 (.slice A8 nL q8) nL xs)) (fun s43 _ => nA - (intOf s43).toNat)
    case atStart => exact ⟨0, Nat.zero_le _, rfl, _, HA1, Lib.hid (fun j _ hj => ⟨l.args[j]'(by rw [HNA.out]; exact hj), by simp [HNA.out, hj], HAT.out _ (List.getElem_mem _)⟩), Lib.hid (KeepsFrom.refl _ _), Lib.hid (Below.refl _ _), HN1, HO1⟩
    case round =>
      clear HA1 HO1 HN1 HAT d6
      obtain ⟨i, hi, rfl, ys, HY, HYS, HKF, HBR, HNR, HOR⟩ := hrel
      obtain ⟨d0, d1, d2, d3, d4, d5, d6, d7, d8, d9, d10, d11, d12⟩ := cells13 HNR.out
      rw [HNA.out] at d6
      by_cases hlt : i < nA
      · obtain ⟨ga, hga⟩ := own_ad HY.out (Nat.zero_lt_of_lt hlt)
        subst hga
        obtain ⟨t, ht, htz⟩ := HYS.out i (Nat.le_refl _) hlt
        have e0 : wr.cell? ⟨ga, i, none⟩ = some (.string t) := by rw [HY.out.cellAt i (by omega)]; exact ht
        have e1 : wr.frozen? ⟨ga, i, none⟩ = false := HY.out.frozenAt i
        have hcat := cat_no htz
        have hg3 := (HY.out.lt ga rfl).1
        have hg6 := HGA.out ga rfl
        have ST := Lib.hid (HY.out.stored i (.string (t ++ ⟨#[63]⟩)))
        have HT := Lib.hid ht
        clear ht htz
        go_wp2
        exact ⟨⟨i + 1, by omega, by go_num, _, Lib.hid ST.out.1, Lib.hid (fun j h1 h2 => by rw [List.getElem?_set_ne (by omega)]; exact HYS.out j (by omega) h2), Lib.hid (HKF.out.trans (keepsFrom_set (by have := HZ9.out; omega))), Lib.hid (HBR.out.setCell (p := ⟨ga, i, none⟩) (by show w2.heap.size ≤ ga; omega) _), Lib.hid (blk_off (by omega) HNR.out), Lib.hid (blk_own HOR.out (grown_set wr ga i _) hg6)⟩, by simp [intOf]; omega⟩
      · have hin : i = nA := by omega
        subst hin
        have HXT := Lib.hid (show ∀ j, 0 ≤ j → j < nL → ∃ s, xs[j * 4 + 2]? = some (.string s) ∧ s.size ≤ 140737488355328 from fun j _ hj => by
          obtain ⟨A', c', _, _, g2, _, _⟩ := HXS.out j (by rw [HNL.out]; exact hj)
          exact ⟨_, g2, opd_mem HP.out.rep (List.getElem_mem _)⟩)
        clear HY HYS d6
        rw [HNL.out] at d10
        clear d0 d1 d2 d3 d4 d5 d7 d8 d9 d11 d12
        go_wp2_with fail
        go_loopw [58] (fun s58 wr => ∃ i : Nat, i ≤ nL ∧ s58 = .int .i64 i ∧ ∃ ys : List Value, RowKit.Hid (wr.ownsRow w6.heap.size 31 4 (.slice A8 nL q8) nL ys) ∧ RowKit.Hid (∀ j, i ≤ j → j < nL → ∃ s, ys[j * 4 + 2]? = some (.string s) ∧ s.size ≤ 140737488355328) ∧ RowKit.Hid (KeepsFrom w9.heap.size s1 wr) ∧ RowKit.Hid (Below w2.heap.size s1 wr) ∧ RowKit.Hid (wr.heap[w2.heap.size]? = some (.cells (ltC l ⟨A5, q5, A8, q8⟩).toArray 33 (0, 0)))) (fun s58 _ => nL - (intOf s58).toNat)
        case atStart => exact ⟨0, Nat.zero_le _, rfl, xs, HOR, HXT, HKF, HBR, HNR⟩
        case round =>
          clear HXT HOR HKF HBR HNR d10
          obtain ⟨i2, hi2, rfl, ys, HY, HYS, HKF, HBR, HNR⟩ := hrel
          obtain ⟨d0, d1, d2, d3, d4, d5, d6, d7, d8, d9, d10, d11, d12⟩ := cells13 HNR.out
          rw [HNL.out] at d10
          by_cases hlt : i2 < nL
          · obtain ⟨gl, hgl⟩ := own_ad HY.out (Nat.zero_lt_of_lt hlt)
            subst hgl
            obtain ⟨t, ht, htz⟩ := HYS.out i2 (Nat.le_refl _) hlt
            have e0 : wr.cell? ⟨gl, i2 * 4 + 2, none⟩ = some (.string t) := by rw [HY.out.cellAt (i2 * 4 + 2) (by omega)]; exact ht
            have e1 : wr.frozen? ⟨gl, i2 * 4 + 2, none⟩ = false := HY.out.frozenAt _
            have hcat := cat_no htz
            have hg3 := (HY.out.lt gl rfl).1
            have hg9 : gl < w9.heap.size := HGL.out gl rfl
            have ST := Lib.hid (HY.out.stored (i2 * 4 + 2) (.string (t ++ ⟨#[63]⟩)))
            have HT := Lib.hid ht
            clear ht htz
            go_wp2
            exact ⟨⟨i2 + 1, by omega, by go_num, _, Lib.hid ST.out.1, Lib.hid (fun j h1 h2 => by rw [List.getElem?_set_ne (by omega)]; exact HYS.out j (by omega) h2), Lib.hid (HKF.out.trans (keepsFrom_set hg9)), Lib.hid (HBR.out.setCell (p := ⟨gl, i2 * 4 + 2, none⟩) (by show w2.heap.size ≤ gl; have := HB6z.out; omega) _), Lib.hid (blk_off (by have := HB6z.out; omega) HNR.out)⟩, by simp [intOf]; omega⟩
          · have hin2 : i2 = nL := by omega
            subst hin2
            clear HY HYS
            have HLF := Lib.hid (HCN.out wr HKF.out (HBR.out.block b (by omega)) (by have := HLS.out.cell; unfold World.cell? at this ⊢; rw [HBR.out.block g (by omega)]; exact this))
            have HBF := Lib.hid (HSB.out.trans (HBR.out.mono HB2.out.size))
            have HQ : RowKit.Hid (qadd (fun _ => []) (0, 1) l (0, 1) = l :: []) := Lib.hid (by simp [qadd])
            clear d0 d1 d2 d3 d4 d5 d6 d7 d8 d9 d10 d11 d12
            go_upto_region 19 with (go_at_call 14; refine Calls.mono (next_is g b 1 _ 0 1 wr HLF.out ⟨by decide, by decide⟩ (by decide) l [] HQ.out) ?_; (rintro e t1 ⟨o3, rfl, ho, hL, hgr⟩; have HO4 := Lib.hid ho; have HBT := Lib.hid (below_turn HBF.out hgr HBB.out HBF.out.size); clear hL hgr ho))
            have HB5T := Lib.hid (show Below W.heap.size W (t1.alloc (.cells (ltC l o3).toArray 33)) from HBT.out.alloc HBT.out.size _)
            have HO5T := Lib.hid (HO4.out.keeps (keeps_below ((Below.refl _ _).alloc (Nat.le_refl _) (.cells (ltC l o3).toArray 33))))
            have HN5T := Lib.hid (heap_alloc_new t1 (.cells (ltC l o3).toArray 33))
            obtain ⟨t2, ht2⟩ : ∃ t2, t2 = t1.alloc (.cells (ltC l o3).toArray 33) := ⟨_, rfl⟩
            rw [← ht2] at HB5T HO5T HN5T
            have ht3 := ht2.symm
            clear ht2 HO4 HBT
            rw [ht3]
            clear ht3
            have HB1T := Lib.hid (keep_blk HB5T.out HN.out.1)
            have HO1T := Lib.hid (HO.out.keeps (keeps_below HB5T.out))
            have HSM := Lib.hid (fun (wx : World) (hx : LtO wx l o) (hy : LtO wx l o3) => (show Calls Try.prog 15 #[ltV l o, ltV l o3] wx fun e w' => e = .returned (.bool true) ∧ Below wx.heap.size wx w' from (lsame_is l l o o3 wx hx hy HF.out.1.fit (Nat.le_trans HF.out.2 (by omega))).mono fun e w' h => ⟨by rw [h.1, sameL_self], h.2⟩))
            go_wp2_with (first
              | (go_at_call 10; refine Calls.mono (alive_is _) ?_; (rintro e t4 ⟨rfl, hb4⟩; have HB4T := Lib.hid (HB5T.out.trans (hb4.mono HB5T.out.size)); have HX4 := Lib.hid (HO1T.out.keeps (keeps_below hb4)); have HY4 := Lib.hid (HO5T.out.keeps (keeps_below hb4)); have HP4 := Lib.hid (keep_blk hb4 HB1T.out); have HR4 := Lib.hid (keep_blk hb4 HN5T.out); clear hb4; obtain ⟨a0, a1, a2, a3, a4, a5, a6, a7, a8, a9, a10, a11, a12⟩ := cells13 HP4.out; obtain ⟨b0, b1, b2, b3, b4, b5, b6, b7, b8, b9, b10, b11, b12⟩ := cells13 HR4.out))
              | (go_at_call 15; refine Calls.mono (HSM.out _ HX4.out HY4.out) ?_; (rintro e t5 ⟨rfl, hb5⟩; have HB5U := Lib.hid (HB0.out.trans ((HB4T.out.trans (hb5.mono HB4T.out.size)).mono HB0.out.size)); clear hb5)))
            go_ret
            exact ⟨rfl, HB5U.out⟩
end Go.Proofs.Ytmflalnajinejaa.T
