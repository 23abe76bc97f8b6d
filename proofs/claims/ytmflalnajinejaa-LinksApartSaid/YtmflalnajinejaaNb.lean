import Derived.Deep.DeepCutAuto
import Derived.Laws.OwnMore
import Derived.OwnWalk
import Derived.Lib.AppendStr
import Derived.Lib.SliceRun
import Derived.Lib.SmallJoins
import Derived.IntWalk
import Derived.WalkMore
import Derived.Lib.OthersKept
import Derived.Deep.LoopGhost
import Derived.Deep.RegionLaw
import Derived.Deep.AppendLies
import Derived.Test.YtmflalnajinejaaProg
import Derived.Test.YtmflalnajinejaaMem
import Derived.Test.YtmflalnajinejaaBlk
import Derived.Test.YtmflalnajinejaaAp
import Derived.Test.YtmflalnajinejaaKa
import Derived.Test.YtmflalnajinejaaKd
import Derived.Test.YtmflalnajinejaaKh
import Derived.Test.YtmflalnajinejaaKl
import Derived.Test.YtmflalnajinejaaKm
import Derived.Test.YtmflalnajinejaaKn
import Derived.Test.YtmflalnajinejaaKx
import Derived.Test.YtmflalnajinejaaMa
import Derived.Test.YtmflalnajinejaaMd
import Derived.Test.YtmflalnajinejaaNa
import Derived.Test.YtmflalnajinejaaZr
import Derived.WalkKit
import Derived.Outline
import Derived.WalkLawsBesides
import Derived.Deep.QuietTactic
import Derived.BigQuiet
import Derived.Lib.Hide
import Derived.Handy
import Derived.Deep.RegionHeld3
import Derived.Deep.DrawnRows
import Derived.KernelRfl
import Derived.Great.Walk
import Derived.Test.YtmflalnajinejaaOwn
namespace Go.Proofs.Ytmflalnajinejaa.T
open Go Go.RowKit Go.Sort Mem Own
set_option maxRecDepth 100000
set_option maxHeartbeats 1000000
set_option linter.unusedVariables false
set_option linter.unusedSimpArgs false

open Go.WideMaps Go.Maps
theorem rm_snoc_hit {x : En} {l : Lt} : ∀ {L : List Wy} (p : Wy), hdW x L = some l → rmW x (L ++ [p]) = rmW x L ++ [p] ∧ hdW x (L ++ [p]) = some l
  | [], p, h => by cases h
  | q :: r, p, h => by
    by_cases e : q.1 = x
    · simp [hdW, e] at h
      simp [rmW, hdW, e, h]
    · have := rm_snoc_hit (L := r) p (by simpa [hdW, e] using h)
      simp [rmW, hdW, e, this.1, this.2]
theorem rm_snoc_new {x : En} : ∀ {L : List Wy} (p : Wy), hdW x L = none → p.1 = x → rmW x (L ++ [p]) = rmW x L ∧ hdW x (L ++ [p]) = some p.2
  | [], p, _, hp => by simp [rmW, hdW, hp]
  | q :: r, p, h, hp => by
    by_cases e : q.1 = x
    · simp [hdW, e] at h
    · have := rm_snoc_new (L := r) p (by simpa [hdW, e] using h) hp
      simp [rmW, hdW, e, this.1, this.2]
theorem rm_snoc_miss {x : En} : ∀ {L : List Wy} (p : Wy), hdW x L = none → ¬ p.1 = x → rmW x (L ++ [p]) = rmW x L ++ [p] ∧ hdW x (L ++ [p]) = none
  | [], p, _, hp => by simp [rmW, hdW, hp]
  | q :: r, p, h, hp => by
    by_cases e : q.1 = x
    · simp [hdW, e] at h
    · have := rm_snoc_miss (L := r) p (by simpa [hdW, e] using h) hp
      simp [rmW, hdW, e, this.1, this.2]
theorem rm_le (x : En) : ∀ L : List Wy, (rmW x L).length ≤ L.length
  | [] => Nat.le_refl _
  | q :: r => by
    by_cases e : q.1 = x
    · simp [rmW, e]
    · have := rm_le x r; simp [rmW, e]; omega
theorem OwnW.set13 {B b : Nat} {w0 w : World} {v : Value} {l : List Wy} (h : OwnW B w0 w v l) (hb : b < B) {u0 u1 u2 u3 u4 u5 u6 u7 u8 u9 u10 u11 u12 : Value} :
    OwnW B w0 ((((((((((((((w.setCell ⟨b, 0, none⟩ u0).setCell ⟨b, 1, none⟩ u1).setCell ⟨b, 2, none⟩ u2).setCell ⟨b, 3, none⟩ u3).setCell ⟨b, 4, none⟩ u4).setCell ⟨b, 5, none⟩ u5).setCell ⟨b, 6, none⟩ u6).setCell ⟨b, 7, none⟩ u7).setCell ⟨b, 8, none⟩ u8).setCell ⟨b, 9, none⟩ u9).setCell ⟨b, 10, none⟩ u10).setCell ⟨b, 11, none⟩ u11).setCell ⟨b, 12, none⟩ u12)) v l := by
  obtain ⟨os, h1, h2⟩ := h
  exact ⟨os, own_keep h1 fun k hk o ho => blk_sets13 ho (by have := (h1.lt k hk).1; omega), h2⟩
theorem OwnW.mono {B B' : Nat} {w0 w : World} {v : Value} {l : List Wy} (h : OwnW B w0 w v l) (hb : B' ≤ B) : OwnW B' w0 w v l := by
  obtain ⟨os, h1, h2⟩ := h
  exact ⟨os, own_mn h1 hb, h2⟩
theorem drew_heap (w : World) : w.drew.heap = w.heap := rfl
/-- A letter stored into a block. -/
def putL (w : World) (b : Nat) (z : Lt) (o : Wh) : World := (((((((((((((w.setCell ⟨b, 0, none⟩ (.int .i64 z.kind)).setCell ⟨b, 1, none⟩ (.int .i64 z.num)).setCell ⟨b, 2, none⟩ (.int .i64 z.slot)).setCell ⟨b, 3, none⟩ (.int .i64 z.ends)).setCell ⟨b, 4, none⟩ (.string z.key)).setCell ⟨b, 5, none⟩ (.string z.text)).setCell ⟨b, 6, none⟩ (.slice o.a z.args.length o.ac)).setCell ⟨b, 7, none⟩ (.int .i64 z.rep.k)).setCell ⟨b, 8, none⟩ (.int .i64 z.rep.z)).setCell ⟨b, 9, none⟩ (.string z.rep.t)).setCell ⟨b, 10, none⟩ (.slice o.r z.rep.l.length o.rc)).setCell ⟨b, 11, none⟩ (.bool z.good)).setCell ⟨b, 12, none⟩ (.int .i64 z.asking))
theorem putL_blk {w : World} {b T : Nat} {z : Lt} {o : Wh} {v0 v1 v2 v3 v4 v5 v6 v7 v8 v9 v10 v11 v12 : Value} (h : w.heap[b]? = some (.cells #[v0, v1, v2, v3, v4, v5, v6, v7, v8, v9, v10, v11, v12] T (0, 0))) : (putL w b z o).drew.heap[b]? = some (.cells (ltC z o).toArray T (0, 0)) := by
  rw [drew_heap]
  unfold putL
  exact sets13 _ _ _ _ _ _ _ _ _ _ _ _ _ h
theorem putL_below {B b : Nat} {w0 w : World} {z : Lt} {o : Wh} (h : Below B w0 w) (hb : B ≤ b) : Below B w0 (putL w b z o).drew := (below_sets13 h hb).drew
theorem putL_own {B b : Nat} {w0 w : World} {v : Value} {l : List Wy} {z : Lt} {o : Wh} (h : OwnW B w0 w v l) (hb : b < B) : OwnW B w0 (putL w b z o).drew v l := by
  have h1 : OwnW B w0 (putL w b z o) v l := h.set13 hb
  exact h1.below ((Below.refl _ _).drew)
/-- The cells of a way, one by one. -/
theorem WyAt.cells {w : World} {b off : Nat} {p : Wy} (h : WyAt w b off p) : ∃ o, LtO w p.2 o ∧ w.cell? ⟨b, off, none⟩ = some (.int .i64 p.1.1) ∧ w.cell? ⟨b, off + 1, none⟩ = some (.int .i64 p.1.2) ∧
    w.cell? ⟨b, off + 2, none⟩ = some (.int .i64 p.2.kind) ∧ w.cell? ⟨b, off + 3, none⟩ = some (.int .i64 p.2.num) ∧ w.cell? ⟨b, off + 4, none⟩ = some (.int .i64 p.2.slot) ∧ w.cell? ⟨b, off + 5, none⟩ = some (.int .i64 p.2.ends) ∧ w.cell? ⟨b, off + 6, none⟩ = some (.string p.2.key) ∧ w.cell? ⟨b, off + 7, none⟩ = some (.string p.2.text) ∧ w.cell? ⟨b, off + 8, none⟩ = some (.slice o.a p.2.args.length o.ac) ∧ w.cell? ⟨b, off + 9, none⟩ = some (.int .i64 p.2.rep.k) ∧ w.cell? ⟨b, off + 10, none⟩ = some (.int .i64 p.2.rep.z) ∧ w.cell? ⟨b, off + 11, none⟩ = some (.string p.2.rep.t) ∧ w.cell? ⟨b, off + 12, none⟩ = some (.slice o.r p.2.rep.l.length o.rc) ∧ w.cell? ⟨b, off + 13, none⟩ = some (.bool p.2.good) ∧ w.cell? ⟨b, off + 14, none⟩ = some (.int .i64 p.2.asking) := by
  obtain ⟨h0, h1, o, h3, h4⟩ := h
  exact ⟨o, h3, h0, h1, h4 0 _ rfl, h4 1 _ rfl, h4 2 _ rfl, h4 3 _ rfl, h4 4 _ rfl, h4 5 _ rfl, h4 6 _ rfl, h4 7 _ rfl, h4 8 _ rfl, h4 9 _ rfl, h4 10 _ rfl, h4 11 _ rfl, h4 12 _ rfl⟩
/-- What ref18.Next gives. -/
def hdL (x : En) (L : List Wy) : Lt := (hdW x L).getD Lt.zero
theorem wp_ret_rnext {fn : Func} {tmps : Array Value} {w : World} {R : Ending → World → Prop} {b T : Nat} {v0 v1 v2 v3 v4 v5 v6 v7 v8 v9 v10 v11 v12 t0 u1 : Value} (hfn : fn.results = #[.tmp 6, .cell 7 33, .tmp 8])
    (h3 : tmps[6]?.getD undef = t0) (h4 : tmps[7]?.getD undef = .pointer (some ⟨b, 0, none⟩)) (h5 : tmps[8]?.getD undef = u1) (hb : w.heap[b]? = some (.cells #[v0, v1, v2, v3, v4, v5, v6, v7, v8, v9, v10, v11, v12] T (0, 0)))
    (hR : R (.returned (.tuple #[t0, .agg #[v0, v1, v2, v3, v4, v5, v6, v7, v8, v9, v10, v11, v12], u1])) w) : bodyPost Try.prog fn R .ret { tmps := tmps, defers := [] } w := by
  obtain ⟨c0, c1, c2, c3, c4, c5, c6, c7, c8, c9, c10, c11, c12⟩ := cells13 hb
  refine bodyPost_ret (v := .tuple #[t0, .agg #[v0, v1, v2, v3, v4, v5, v6, v7, v8, v9, v10, v11, v12], u1]) ?_ rfl hR
  simp [results, hfn, go_sem, h3, h4, h5, c0, c1, c2, c3, c4, c5, c6, c7, c8, c9, c10, c11, c12]
set_option maxHeartbeats 8000000 in
/-- ref18.Next -/
theorem rnext_is (l : List Wy) (A : Option Addr) (n c : Nat) (x y : Int) (w : World) (hl : l.length = n) (hn : n ≤ 1000) (hr : RdW w A l) :
    Calls Try.prog 20 #[.slice A n c, .int .i64 x, .int .i64 y] w fun e w' => ∃ v o, e = .returned (.tuple #[v, ltV (hdL (x, y) l) o, .bool (hdW (x, y) l).isSome]) ∧ LtO w' (hdL (x, y) l) o ∧ OwnW w.heap.size w w' v (rmW (x, y) l) ∧ Below w.heap.size w w' := by
  have HR := Lib.hid hr
  have HL := Lib.hid hl
  have HLE := Lib.hid (fun i => Nat.le_trans (rm_le (x, y) (l.take i)) (List.length_take_le i l))
  have HN := Lib.hid (new2 w #[.int .i64 0, .int .i64 0, .int .i64 0, .int .i64 0, .string ⟨#[]⟩, .string ⟨#[]⟩, .slice none 0 0, .int .i64 0, .int .i64 0, .string ⟨#[]⟩, .slice none 0 0, .bool false, .int .i64 0] #[.int .i64 0, .int .i64 0, .int .i64 0, .int .i64 0, .string ⟨#[]⟩, .string ⟨#[]⟩, .slice none 0 0, .int .i64 0, .int .i64 0, .string ⟨#[]⟩, .slice none 0 0, .bool false, .int .i64 0] 33 33)
  obtain ⟨W, hW⟩ : ∃ W, W = (w.alloc (.cells #[.int .i64 0, .int .i64 0, .int .i64 0, .int .i64 0, .string ⟨#[]⟩, .string ⟨#[]⟩, .slice none 0 0, .int .i64 0, .int .i64 0, .string ⟨#[]⟩, .slice none 0 0, .bool false, .int .i64 0] 33)).alloc (.cells #[.int .i64 0, .int .i64 0, .int .i64 0, .int .i64 0, .string ⟨#[]⟩, .string ⟨#[]⟩, .slice none 0 0, .int .i64 0, .int .i64 0, .string ⟨#[]⟩, .slice none 0 0, .bool false, .int .i64 0] 33) := ⟨_, rfl⟩
  have hzW : W.heap.size = w.heap.size + 2 := by rw [hW, alloc_sz, alloc_sz]
  have HW := Lib.hid hW.symm
  rw [← hW] at HN
  clear hW hr hl
  have HZ := Lib.hid hzW
  clear hzW
  obtain ⟨E, hE⟩ : ∃ E, E = (hdW (x, y) l).isSome := ⟨_, rfl⟩
  have HEE := Lib.hid hE
  clear hE
  rw [← HEE.out]
  obtain ⟨Z, hZ⟩ : ∃ Z, hdL (x, y) l = Z := ⟨_, rfl⟩
  have HZZ := Lib.hid hZ
  rw [hZ]
  clear hZ
  go_enter Try.func20, Try.ntmps20
  go_upto_region 3 with fail
  rw [HW.out]
  go_wp2_with fail
  go_loopw [9, 11, 12] (fun s9 s11 s12 wr => ∃ i : Nat, i ≤ n ∧ s12 = .int .i64 i ∧ ∃ (v : Value) (acc : List Wy) (d : Bool) (z : Lt) (o : Wh), s9 = v ∧ s11 = .bool d ∧ RowKit.Hid (rmW (x, y) (l.take i) = acc) ∧ RowKit.Hid (OwnW (w.heap.size + 2) w wr v acc) ∧ RowKit.Hid (d = (hdW (x, y) (l.take i)).isSome) ∧ RowKit.Hid (z = hdL (x, y) (l.take i)) ∧ RowKit.Hid (LtO w z o) ∧ RowKit.Hid (wr.heap[w.heap.size + 1]? = some (.cells (ltC z o).toArray 33 (0, 0))) ∧ RowKit.Hid (wr.heap[w.heap.size]? = some (.cells (ltC Lt.zero ⟨none, 0, none, 0⟩).toArray 33 (0, 0))) ∧ RowKit.Hid (Below w.heap.size w wr) ∧ RowKit.Hid (w.heap.size + 2 ≤ wr.heap.size)) (fun _ _ s12 _ => n - (intOf s12).toNat)
  case atStart => exact ⟨0, Nat.zero_le _, rfl, _, [], _, Lt.zero, ⟨none, 0, none, 0⟩, rfl, rfl, Lib.hid (by simp [rmW]), Lib.hid (OwnW.nil _ _ _), Lib.hid (by simp [hdW]), Lib.hid (by simp [hdL, hdW]), Lib.hid (zeroO w), Lib.hid HN.out.2.1, Lib.hid HN.out.1, Lib.hid HN.out.2.2, Lib.hid (by rw [HZ.out]; exact Nat.le_refl _)⟩
  case round =>
    obtain ⟨i, hi, rfl, v, acc, d, z, o, hv, rfl, HRM, HOW, HD, HZL, HZO, HB1, HB0, HB, HSZ⟩ := hrel
    have hv' := hv.symm
    subst hv'
    have HACC := Lib.hid (show acc.length ≤ 1000 by have := HLE.out i; rw [HRM.out] at this; omega)
    by_cases hlt : i < n
    · have hlt2 := Lib.hid (show i < l.length by rw [HL.out]; exact hlt)
      obtain ⟨b, off, rfl, hrow⟩ := HR.out.row (Nat.zero_lt_of_lt hlt2.out)
      obtain ⟨op, hop, g0, g1, g2, g3, g4, g5, g6, g7, g8, g9, g10, g11, g12, g13, g14⟩ := (hrow i hlt2.out).cells
      have g0 := cell_below HB.out g0
      have g1 := cell_below HB.out g1
      have g2 := cell_below HB.out g2
      have g3 := cell_below HB.out g3
      have g4 := cell_below HB.out g4
      have g5 := cell_below HB.out g5
      have g6 := cell_below HB.out g6
      have g7 := cell_below HB.out g7
      have g8 := cell_below HB.out g8
      have g9 := cell_below HB.out g9
      have g10 := cell_below HB.out g10
      have g11 := cell_below HB.out g11
      have g12 := cell_below HB.out g12
      have g13 := cell_below HB.out g13
      have g14 := cell_below HB.out g14
      have HOP := Lib.hid hop
      have HTK := Lib.hid (List.take_succ_eq_append_getElem hlt2.out)
      clear hrow hop
      generalize l[i]'hlt2.out = p at g0 g1 g2 g3 g4 g5 g6 g7 g8 g9 g10 g11 g12 g13 g14 HOP HTK
      obtain ⟨⟨px, py⟩, pl⟩ := p
      dsimp only at g0 g1 g2 g3 g4 g5 g6 g7 g8 g9 g10 g11 g12 g13 g14 HOP
      have HAP := Lib.hid (app_way (w.heap.size + 2) w wr v acc acc.length rfl HOW.out HSZ.out ((px, py), pl) op HOP.out (Nat.le_trans HACC.out (by omega)))
      have ARM := HAP
      cases hd : hdW (x, y) (l.take i) with
      | some l1 =>
        have hdt : d = true := by rw [HD.out, hd]; rfl
        subst hdt
        have HS1 := Lib.hid (rm_snoc_hit ((px, py), pl) hd)
        rw [← HTK.out] at HS1
        have HZ1 := Lib.hid (show z = hdL (x, y) (l.take (i + 1)) by rw [HZL.out]; unfold hdL; rw [HS1.out.2, hd])
        have HD1 := Lib.hid (show true = (hdW (x, y) (l.take (i + 1))).isSome by rw [HS1.out.2]; rfl)
        have HRM1 := Lib.hid (show rmW (x, y) (l.take (i + 1)) = acc ++ [((px, py), pl)] by rw [HS1.out.1, HRM.out])
        clear hd HS1 HD HZL HTK
        go_wp2_with (at_builtin; refine Own.wpList_append_ex rfl (.tmp 44) (.tmp 49) 27 27 rfl v (.slice (some ⟨_, 0, none⟩) 1 1) rfl rfl _ HAP.out ?_; (rintro v7 w7 ⟨ho, hb⟩; have HO7 := Lib.hid ho; have HB7 := Lib.hid hb; clear ho hb))
        exact ⟨⟨i + 1, by omega, by go_num, _, acc ++ [((px, py), pl)], _, z, o, rfl, rfl, HRM1, HO7, HD1, HZ1, HZO, Lib.hid (by rw [HB7.out.block _ (by omega)]; exact HB1.out), Lib.hid (by rw [HB7.out.block _ (by omega)]; exact HB0.out), Lib.hid (HB.out.trans (HB7.out.mono (by omega))), Lib.hid (Nat.le_trans HSZ.out HB7.out.size)⟩, by simp [intOf]; omega⟩
      | none =>
        have hdt : d = false := by rw [HD.out, hd]; rfl
        subst hdt
        by_cases hpe : (px, py) = (x, y)
        · have HS1 := Lib.hid (rm_snoc_new ((px, py), pl) hd hpe)
          rw [← HTK.out] at HS1
          have HZ1 := Lib.hid (show pl = hdL (x, y) (l.take (i + 1)) by unfold hdL; rw [HS1.out.2]; rfl)
          have HD1 := Lib.hid (show true = (hdW (x, y) (l.take (i + 1))).isSome by rw [HS1.out.2]; rfl)
          have HRM1 := Lib.hid (show rmW (x, y) (l.take (i + 1)) = acc by rw [HS1.out.1, HRM.out])
          have e1 : (px == x) = true := by have := (Prod.mk.inj hpe).1; simpa using this
          have e2 : (py == y) = true := by have := (Prod.mk.inj hpe).2; simpa using this
          clear hd HS1 HD HZL HTK hpe HAP ARM
          obtain ⟨f0, f1, f2, f3, f4, f5, f6, f7, f8, f9, f10, f11, f12⟩ := frees13 HB1.out
          obtain ⟨y0, y1, y2, y3, y4, y5, y6, y7, y8, y9, y10, y11, y12⟩ := cells13 HB1.out
          go_wp2
          exact ⟨⟨i + 1, by omega, by go_num, _, acc, _, pl, op, rfl, rfl, HRM1, Lib.hid (HOW.out.set13 (by omega)), HD1, HZ1, HOP, Lib.hid (sets13 _ _ _ _ _ _ _ _ _ _ _ _ _ HB1.out), Lib.hid (blk_sets13 HB0.out (by omega)), Lib.hid (below_sets13 HB.out (by omega)), Lib.hid (by simp only [World.setCell, Array.size_modify]; exact HSZ.out)⟩, by simp [intOf]; omega⟩
        · have HS1 := Lib.hid (rm_snoc_miss ((px, py), pl) hd hpe)
          rw [← HTK.out] at HS1
          have HZ1 := Lib.hid (show z = hdL (x, y) (l.take (i + 1)) by rw [HZL.out]; unfold hdL; rw [HS1.out.2, hd])
          have HD1 := Lib.hid (show false = (hdW (x, y) (l.take (i + 1))).isSome by rw [HS1.out.2]; rfl)
          have HRM1 := Lib.hid (show rmW (x, y) (l.take (i + 1)) = acc ++ [((px, py), pl)] by rw [HS1.out.1, HRM.out])
          clear hd HS1 HD HZL HTK
          by_cases e1 : px = x
          · have e2 : (py == y) = false := by simpa using fun e => hpe (by rw [e1, e])
            clear hpe
            subst e1
            go_wp2_with (at_builtin; refine Own.wpList_append_ex rfl (.tmp 44) (.tmp 49) 27 27 rfl v (.slice (some ⟨_, 0, none⟩) 1 1) rfl rfl _ HAP.out ?_; (rintro v7 w7 ⟨ho, hb⟩; have HO7 := Lib.hid ho; have HB7 := Lib.hid hb; clear ho hb))
            exact ⟨⟨i + 1, by omega, by go_num, _, acc ++ [((px, py), pl)], _, z, o, rfl, rfl, HRM1, HO7, HD1, HZ1, HZO, Lib.hid (by rw [HB7.out.block _ (by omega)]; exact HB1.out), Lib.hid (by rw [HB7.out.block _ (by omega)]; exact HB0.out), Lib.hid (HB.out.trans (HB7.out.mono (by omega))), Lib.hid (Nat.le_trans HSZ.out HB7.out.size)⟩, by simp [intOf]; omega⟩
          · have e1 : (px == x) = false := by simpa using e1
            clear hpe
            go_wp2_with (at_builtin; refine Own.wpList_append_ex rfl (.tmp 44) (.tmp 49) 27 27 rfl v (.slice (some ⟨_, 0, none⟩) 1 1) rfl rfl _ HAP.out ?_; (rintro v7 w7 ⟨ho, hb⟩; have HO7 := Lib.hid ho; have HB7 := Lib.hid hb; clear ho hb))
            exact ⟨⟨i + 1, by omega, by go_num, _, acc ++ [((px, py), pl)], _, z, o, rfl, rfl, HRM1, HO7, HD1, HZ1, HZO, Lib.hid (by rw [HB7.out.block _ (by omega)]; exact HB1.out), Lib.hid (by rw [HB7.out.block _ (by omega)]; exact HB0.out), Lib.hid (HB.out.trans (HB7.out.mono (by omega))), Lib.hid (Nat.le_trans HSZ.out HB7.out.size)⟩, by simp [intOf]; omega⟩
    · have hin : i = n := by omega
      subst hin
      have ht : l.take i = l := by rw [← HL.out]; exact List.take_length
      rw [ht] at HRM HD HZL
      have hdE : d = E := HD.out.trans HEE.out.symm
      subst hdE
      have hzz : z = Z := HZL.out.trans HZZ.out
      subst hzz
      obtain ⟨f0, f1, f2, f3, f4, f5, f6, f7, f8, f9, f10, f11, f12⟩ := frees13 HB0.out
      obtain ⟨z0, z1, z2, z3, z4, z5, z6, z7, z8, z9, z10, z11, z12⟩ := cells13 HB1.out
      obtain ⟨q0, q1, q2, q3, q4, q5, q6, q7, q8, q9, q10, q11, q12⟩ := cells13 HB0.out
      have H1 := Lib.hid (putL_blk (z := z) (o := o) HB0.out)
      have H2 := Lib.hid (putL_below (z := z) (o := o) HB.out (Nat.le_refl _))
      have H3 := Lib.hid (OwnW.mono (putL_own (z := z) (o := o) (b := w.heap.size) HOW.out (by omega)) (show w.heap.size ≤ w.heap.size + 2 by omega))
      go_wp2_with fail
      go_region_with fail
      all_goals
        go_wp2_with fail
        simp only [Act.put, List.getElem_toArray, List.getElem_cons_succ, List.getElem_cons_zero, Array.set!, List.setIfInBounds_toArray, List.set_cons_succ, List.set_cons_zero]
        refine wp_ret_rnext (w := (putL wr w.heap.size z o).drew) rfl rfl rfl rfl H1.out ?_
        exact ⟨_, o, rfl, HZO.out.keeps (keeps_below H2.out), by rw [HRM.out]; exact H3.out, H2.out⟩
end Go.Proofs.Ytmflalnajinejaa.T
