import Derived.Deep.DeepCutAuto
import Derived.Laws.OwnMore
import Derived.OwnWalk
import Derived.Lib.AppendStr
import Derived.Lib.SliceRun
import Derived.Lib.SmallJoins
import Derived.IntWalk
import Derived.WalkMore
import Derived.Lib.OthersKept
import Derived.Deep.LoopGhost
import Derived.Deep.RegionLaw
import Derived.Deep.AppendLies
import Derived.Test.YtmflalnajinejaaProg
import Derived.Test.YtmflalnajinejaaMem
import Derived.Test.YtmflalnajinejaaBlk
import Derived.Test.YtmflalnajinejaaAp
import Derived.Test.YtmflalnajinejaaKa
import Derived.Test.YtmflalnajinejaaKd
import Derived.Test.YtmflalnajinejaaKe
import Derived.Test.YtmflalnajinejaaKh
import Derived.Test.YtmflalnajinejaaKj
import Derived.Test.YtmflalnajinejaaKl
import Derived.Test.YtmflalnajinejaaKm
import Derived.Test.YtmflalnajinejaaKn
import Derived.Test.YtmflalnajinejaaKr
import Derived.Test.YtmflalnajinejaaKs
import Derived.Test.YtmflalnajinejaaKx
import Derived.Test.YtmflalnajinejaaMa
import Derived.Test.YtmflalnajinejaaMb
import Derived.Test.YtmflalnajinejaaMd
import Derived.Test.YtmflalnajinejaaNa
import Derived.Test.YtmflalnajinejaaNb
import Derived.Test.YtmflalnajinejaaNc
import Derived.Test.YtmflalnajinejaaZr
import Derived.WalkKit
import Derived.Outline
import Derived.WalkLawsBesides
import Derived.Deep.QuietTactic
import Derived.BigQuiet
import Derived.Lib.Hide
import Derived.Handy
import Derived.Deep.RegionHeld3
import Derived.Deep.DrawnRows
import Derived.KernelRfl
import Derived.Great.Walk
import Derived.Test.YtmflalnajinejaaOwn
namespace Go.Proofs.Ytmflalnajinejaa.T
open Go Go.RowKit Go.Sort Mem Own
set_option maxRecDepth 100000
set_option maxHeartbeats 1000000
set_option linter.unusedVariables false
set_option linter.unusedSimpArgs false

open Go.WideMaps Go.Maps
abbrev oxV (p : Ox) (o : Wh) : Value := .agg (oxC p o)
theorem OwnZ.below {w0 w w' : World} {v : Value} {l : List Wy} (h : OwnZ w0 w v l) (hb : Below w.heap.size w w') : OwnZ w0 w' v l := by
  rcases h with h | h
  · exact .inl (h.below hb)
  · exact .inr h
theorem below_al {w0 X : World} (h : Below w0.heap.size w0 X) (o : Obj) : Below w0.heap.size w0 (X.alloc o) := h.alloc h.size o
theorem grown_2 {w W w4 : World} {b : Nat} (hB : Below w.heap.size w W) (hG : W.grownBy w4 (some b)) : w.grownBy w4 (some b) :=
  World.grownBy.andThen (row := some b) (⟨hB.os, hB.tape, hB.output, hB.size, fun k hk _ => hB.block k hk⟩) hG (fun j e => .inr e)
theorem grown_3 {w W w4 wf : World} {b : Nat} (hB : Below w.heap.size w W) (hG : W.grownBy w4 (some b)) (hF : Below w4.heap.size w4 wf) : w.grownBy wf (some b) := grown_below (grown_2 hB hG) (hF.mono (grown_2 hB hG).size)
/-- A call on the document's row. -/
def stepL (p : Ox) (L : List Wy) : List Wy := if p.kind = 0 then L ++ [(p.way, p.x)] else if p.kind = 1 then rmW p.way L else L
/-- The letters on their way are small. -/
def SmL (L : List Wy) : Prop := ∀ q ∈ L, q.1.wf ∧ Tiny q.2.rep ∧ q.2.args.length ≤ 100
set_option maxHeartbeats 8000000 in
/-- law18.does: Send -/
theorem does0_is (g b n : Nat) (Q : En → List Lt) (L : List Wy) (A : Option Addr) (N c : Nat) (p : Ox) (o : Wh) (w : World) (h : LK w g b n Q) (hq : QR Q L) (hL : L.length = N) (hN : N ≤ 1000) (hn : n ≤ 1000) (hr : RdW w A L) (hO : LtO w p.x o) (hwf : p.way.wf) (ht : Tiny p.x.rep) (ha : p.x.args.length ≤ 100) (hk : p.kind = 0) :
    Calls Try.prog 11 #[.pointer (some ⟨g, 0, none⟩), .slice A N c, oxV p o] w fun e w' => ∃ A' c', e = .returned (.tuple #[.slice A' (N + 1) c', .bool true]) ∧ RdW w' A' (L ++ [(p.way, p.x)]) ∧ LK w' g b (n + 1) (qadd Q p.way p.x) ∧ w.grownBy w' (some b) := by
  have HN := Lib.hid (new1 w (oxC p o) 35)
  obtain ⟨W, hW⟩ : ∃ W, W = w.alloc (.cells (oxC p o) 35) := ⟨_, rfl⟩
  have HW := Lib.hid hW.symm
  rw [← hW] at HN
  clear hW
  obtain ⟨pk, ⟨p1, p2⟩, px⟩ := p
  dsimp only at HN HW hO hwf ht ha hk ⊢
  subst hk
  have HB := Lib.hid HN.out.2
  have HR := Lib.hid (hr.keeps (keeps_below HB.out))
  have HO := Lib.hid (hO.keeps (keeps_below HB.out))
  have HLK := Lib.hid (h.below HB.out)
  have HQ := Lib.hid hq
  have HL := Lib.hid hL
  have hbb : b < w.heap.size := h.isMap.elim fun _ h => h.elim fun _ h => lt_of_blk h
  have HBB := Lib.hid hbb
  clear hbb hL hq hO hr h
  obtain ⟨y0, y1, y2, y3, y4, y5, y6, y7, y8, y9, y10, y11, y12, y13, y14, y15⟩ := cells16 HN.out.1
  dsimp only at y0 y1 y2 y3 y4 y5 y6 y7 y8 y9 y10 y11 y12 y13 y14 y15
  have HSD := Lib.hid (send_is g b n Q p1 p2 px o W HLK.out hwf (by omega) HO.out ht (Nat.le_trans ha (by omega)))
  go_enter Try.func11, Try.ntmps11
  go_upto_region 1 with fail
  rw [HW.out]
  go_upto_region 4 with (go_at_call 13; refine Calls.mono HSD.out ?_; (rintro e w2 ⟨rfl, hL, hgr, _⟩; have HL2 := Lib.hid hL; have HG2 := Lib.hid hgr; have HK2 := Lib.hid (HLK.out.keeps hgr); clear hL hgr))
  have v1 := HK2.out _ _ y1
  have v2 := HK2.out _ _ y2
  have v3 := HK2.out _ _ y3
  have v4 := HK2.out _ _ y4
  have v5 := HK2.out _ _ y5
  have v6 := HK2.out _ _ y6
  have v7 := HK2.out _ _ y7
  have v8 := HK2.out _ _ y8
  have v9 := HK2.out _ _ y9
  have v10 := HK2.out _ _ y10
  have v11 := HK2.out _ _ y11
  have v12 := HK2.out _ _ y12
  have v13 := HK2.out _ _ y13
  have v14 := HK2.out _ _ y14
  have v15 := HK2.out _ _ y15
  have HR2 := Lib.hid (HR.out.keeps HK2.out)
  have HO2 := Lib.hid (HO.out.keeps HK2.out)
  clear y0 y1 y2 y3 y4 y5 y6 y7 y8 y9 y10 y11 y12 y13 y14 y15
  have hB5 : w.heap.size < w2.heap.size := lt_of_cell v1
  have HSK := Lib.hid (fun (w' : World) (hk : Keeps w2 w') => (show w'.cell? ⟨w.heap.size, 1, none⟩ = some (.int .i64 p1) ∧ w'.cell? ⟨w.heap.size, 2, none⟩ = some (.int .i64 p2) ∧ w'.cell? ⟨w.heap.size, 3, none⟩ = some (.int .i64 px.kind) ∧ w'.cell? ⟨w.heap.size, 4, none⟩ = some (.int .i64 px.num) ∧ w'.cell? ⟨w.heap.size, 5, none⟩ = some (.int .i64 px.slot) ∧ w'.cell? ⟨w.heap.size, 6, none⟩ = some (.int .i64 px.ends) ∧ w'.cell? ⟨w.heap.size, 7, none⟩ = some (.string px.key) ∧ w'.cell? ⟨w.heap.size, 8, none⟩ = some (.string px.text) ∧ w'.cell? ⟨w.heap.size, 9, none⟩ = some (.slice o.a px.args.length o.ac) ∧ w'.cell? ⟨w.heap.size, 10, none⟩ = some (.int .i64 px.rep.k) ∧ w'.cell? ⟨w.heap.size, 11, none⟩ = some (.int .i64 px.rep.z) ∧ w'.cell? ⟨w.heap.size, 12, none⟩ = some (.string px.rep.t) ∧ w'.cell? ⟨w.heap.size, 13, none⟩ = some (.slice o.r px.rep.l.length o.rc) ∧ w'.cell? ⟨w.heap.size, 14, none⟩ = some (.bool px.good) ∧ w'.cell? ⟨w.heap.size, 15, none⟩ = some (.int .i64 px.asking) from ⟨hk _ _ v1, hk _ _ v2, hk _ _ v3, hk _ _ v4, hk _ _ v5, hk _ _ v6, hk _ _ v7, hk _ _ v8, hk _ _ v9, hk _ _ v10, hk _ _ v11, hk _ _ v12, hk _ _ v13, hk _ _ v14, hk _ _ v15⟩))
  have HAP1 := Lib.hid (fun (Wx : World) (gx : Nat) (hb : Below w2.heap.size w2 Wx) => (by have := app_ways0 w2 Wx gx hb A L c HR2.out (by rw [HL.out]; omega); rw [HL.out] at this; obtain ⟨v', w', h1, h2, h3⟩ := this; exact ⟨v', w', h1, h2, h3, hb.trans (h3.mono hb.size)⟩ : ∃ v' w', (Builtin.append_ #[27, 27] 27 #[.slice (some ⟨gx, 0, none⟩) 0 0, .slice A N c]).run Try.prog Wx = .ok v' w' ∧ (OwnZ w2 w' v' L ∧ Below Wx.heap.size Wx w' ∧ Below w2.heap.size w2 w')))
  have HAP2 := Lib.hid (fun (Wx : World) (v : Value) (hz : OwnZ w2 Wx v L) (hb : Below w2.heap.size w2 Wx) (G : Nat) (hG : Wx.heap[G]? = some (.cells (wyC ((p1, p2), px) o).toArray 56 (0, 0))) => app_way0 w2 Wx v L hz hb ((p1, p2), px) o HO2.out (by rw [HL.out]; omega) G hG)
  clear v1 v2 v3 v4 v5 v6 v7 v8 v9 v10 v11 v12 v13 v14 v15
  go_region_held3 (fun w' => w'.cell? ⟨w.heap.size, 1, none⟩ = some (.int .i64 p1) ∧ w'.cell? ⟨w.heap.size, 2, none⟩ = some (.int .i64 p2) ∧ w'.cell? ⟨w.heap.size, 3, none⟩ = some (.int .i64 px.kind) ∧ w'.cell? ⟨w.heap.size, 4, none⟩ = some (.int .i64 px.num) ∧ w'.cell? ⟨w.heap.size, 5, none⟩ = some (.int .i64 px.slot) ∧ w'.cell? ⟨w.heap.size, 6, none⟩ = some (.int .i64 px.ends) ∧ w'.cell? ⟨w.heap.size, 7, none⟩ = some (.string px.key) ∧ w'.cell? ⟨w.heap.size, 8, none⟩ = some (.string px.text) ∧ w'.cell? ⟨w.heap.size, 9, none⟩ = some (.slice o.a px.args.length o.ac) ∧ w'.cell? ⟨w.heap.size, 10, none⟩ = some (.int .i64 px.rep.k) ∧ w'.cell? ⟨w.heap.size, 11, none⟩ = some (.int .i64 px.rep.z) ∧ w'.cell? ⟨w.heap.size, 12, none⟩ = some (.string px.rep.t) ∧ w'.cell? ⟨w.heap.size, 13, none⟩ = some (.slice o.r px.rep.l.length o.rc) ∧ w'.cell? ⟨w.heap.size, 14, none⟩ = some (.bool px.good) ∧ w'.cell? ⟨w.heap.size, 15, none⟩ = some (.int .i64 px.asking))
    (first | exact HSK.out _ (keeps_below (by repeat (first | exact Below.refl _ _ | assumption | (refine Below.drew ?_) | (refine Go.below_drewN ?_ _) | (refine below_al ?_ _)))))
    (first
      | (refine Own.step_append_run rfl (.tmp 25) (.tmp 26) 27 27 rfl (.slice (some ⟨_, 0, none⟩) 0 0) (.slice A N c) rfl rfl _ (by exact HAP1.out _ _ (by repeat (first | exact Below.refl _ _ | assumption | (refine Below.drew ?_) | (refine Go.below_drewN ?_ _) | (refine below_al ?_ _)))) ?_; (rintro v27 w27 ⟨ho, hb27, hc27⟩; have HO27 := Lib.hid ho; clear ho))
      | (refine Own.step_append_run rfl (.tmp 27) (.tmp 35) 27 27 rfl v27 (.slice (some ⟨_, 0, none⟩) 1 1) rfl rfl _ (by exact HAP2.out _ _ (HO27.out.below (by repeat (first | exact Below.refl _ _ | assumption | (refine Below.drew ?_) | (refine Go.below_drewN ?_ _) | (refine below_al ?_ _)))) (by repeat (first | exact Below.refl _ _ | assumption | (refine Below.drew ?_) | (refine Go.below_drewN ?_ _) | (refine below_al ?_ _))) _ (by first | exact heap_alloc_new _ _ | exact keep_blk hb27 (heap_alloc_new _ _) | exact keep_blk hb27 (new2 w2 #[] (wyC ((p1, p2), px) o).toArray 56 56).2.1 | exact keep_blk hb27 (new2 w2 (wyC ((p1, p2), px) o).toArray #[] 56 56).1)) ?_; (rintro v36 w36 ⟨ho, hc36⟩; have HO36 := Lib.hid ho; clear ho)))
  all_goals
    go_wp2
    go_ret2
    obtain ⟨A', c', rfl, hrd⟩ := HO36.out.read hc36
    have hgr : w.grownBy w36 (some b) := grown_3 HB.out HG2.out hc36
    exact ⟨A', c', by simp [HL.out], hrd, HL2.out.below hc36, hgr⟩
end Go.Proofs.Ytmflalnajinejaa.T
