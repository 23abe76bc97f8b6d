import Derived.Deep.DeepCutAuto
import Derived.Laws.OwnMore
import Derived.OwnWalk
import Derived.Lib.AppendStr
import Derived.Lib.SliceRun
import Derived.Lib.SmallJoins
import Derived.IntWalk
import Derived.WalkMore
import Derived.Lib.OthersKept
import Derived.Deep.LoopGhost
import Derived.Deep.RegionLaw
import Derived.Deep.AppendLies
import Derived.Test.YtmflalnajinejaaProg
import Derived.Test.YtmflalnajinejaaMem
import Derived.Test.YtmflalnajinejaaBlk
import Derived.Test.YtmflalnajinejaaAp
import Derived.Test.YtmflalnajinejaaKa
import Derived.Test.YtmflalnajinejaaKd
import Derived.Test.YtmflalnajinejaaKe
import Derived.Test.YtmflalnajinejaaKh
import Derived.Test.YtmflalnajinejaaKi
import Derived.Test.YtmflalnajinejaaKj
import Derived.Test.YtmflalnajinejaaKk
import Derived.Test.YtmflalnajinejaaKl
import Derived.Test.YtmflalnajinejaaKm
import Derived.Test.YtmflalnajinejaaKn
import Derived.Test.YtmflalnajinejaaKq
import Derived.Test.YtmflalnajinejaaKr
import Derived.Test.YtmflalnajinejaaOwn
import Derived.Test.YtmflalnajinejaaZr
import Derived.WalkKit
import Derived.Outline
import Derived.WalkLawsBesides
import Derived.Deep.QuietTactic
import Derived.BigQuiet
import Derived.Lib.Hide
import Derived.Handy
import Derived.Deep.RegionHeld3
import Derived.Deep.DrawnRows
import Derived.KernelRfl
import Derived.Great.Walk
import Derived.Test.YtmflalnajinejaaOwn
namespace Go.Proofs.Ytmflalnajinejaa.T
open Go Go.RowKit Go.Sort Mem Own
set_option maxRecDepth 100000
set_option maxHeartbeats 1000000
set_option linter.unusedVariables false
set_option linter.unusedSimpArgs false

open Go.WideMaps Go.Maps
theorem keep13 {w w1 : World} {b T : Nat} {v0 v1 v2 v3 v4 v5 v6 v7 v8 v9 v10 v11 v12 : Value} (hb : Below w.heap.size w w1) (h : w.heap[b]? = some (.cells #[v0, v1, v2, v3, v4, v5, v6, v7, v8, v9, v10, v11, v12] T (0, 0))) : w1.heap[b]? = some (.cells #[v0, v1, v2, v3, v4, v5, v6, v7, v8, v9, v10, v11, v12] T (0, 0)) := keep_blk hb h
/-- The box of a letter once its rows are copied. -/
theorem box_sets {w : World} {b : Nat} {x : Lt} {o : Wh} {A R : Option Addr} {a r : Nat} (h : w.heap[b]? = some (.cells #[.int .i64 x.kind, .int .i64 x.num, .int .i64 x.slot, .int .i64 x.ends, .string x.key, .string x.text, .slice o.a x.args.length o.ac, .int .i64 x.rep.k, .int .i64 x.rep.z, .string x.rep.t, .slice o.r x.rep.l.length o.rc, .bool x.good, .int .i64 x.asking] 33 (0, 0))) :
    (((((w.setCell ⟨b, 6, none⟩ (.slice A x.args.length a)).setCell ⟨b, 7, none⟩ (.int .i64 x.rep.k)).setCell ⟨b, 8, none⟩ (.int .i64 x.rep.z)).setCell ⟨b, 9, none⟩ (.string x.rep.t)).setCell ⟨b, 10, none⟩ (.slice R x.rep.l.length r)).heap[b]? = some (.cells (ltC x ⟨A, a, R, r⟩).toArray 33 (0, 0)) := by
  have h1 := blk_set (i := 6) h (.slice A x.args.length a)
  have h2 := blk_set (i := 7) h1 (.int .i64 x.rep.k)
  have h3 := blk_set (i := 8) h2 (.int .i64 x.rep.z)
  have h4 := blk_set (i := 9) h3 (.string x.rep.t)
  have h5 := blk_set (i := 10) h4 (.slice R x.rep.l.length r)
  simpa using h5
theorem below_set5 {B b : Nat} {w0 w : World} {u0 u1 u2 u3 u4 : Value} (h : Below B w0 w) (hb : B ≤ b) : Below B w0 (((((w.setCell ⟨b, 6, none⟩ u0).setCell ⟨b, 7, none⟩ u1).setCell ⟨b, 8, none⟩ u2).setCell ⟨b, 9, none⟩ u3).setCell ⟨b, 10, none⟩ u4) := by
  have h1 := h.setCell (p := ⟨b, 6, none⟩) hb u0
  have h2 := h1.setCell (p := ⟨b, 7, none⟩) hb u1
  have h3 := h2.setCell (p := ⟨b, 8, none⟩) hb u2
  have h4 := h3.setCell (p := ⟨b, 9, none⟩) hb u3
  exact h4.setCell (p := ⟨b, 10, none⟩) hb u4
theorem kf_set5 {w : World} {B b : Nat} {u0 u1 u2 u3 u4 : Value} (hB : b < B) : KeepsFrom B w (((((w.setCell ⟨b, 6, none⟩ u0).setCell ⟨b, 7, none⟩ u1).setCell ⟨b, 8, none⟩ u2).setCell ⟨b, 9, none⟩ u3).setCell ⟨b, 10, none⟩ u4) :=
  ((((keepsFrom_set hB).trans (keepsFrom_set hB)).trans (keepsFrom_set hB)).trans (keepsFrom_set hB)).trans (keepsFrom_set hB)
theorem look_all {w : World} {g b n : Nat} {Q : En → List Lt} (h : LK w g b n Q) {x : En} (hx : x.wf) :
    ∃ A c, (Instr.lookup 51 (.map (some b)) (enV x) false).run Try.prog w = .ok (.slice A (Q x).length c) w ∧ (Q x).length ≤ c ∧ c ≤ maxLen ∧ RdL w A (Q x) ∧ (Q x).length ≤ n ∧ ((Q x).length = 0 → A = none) ∧
      ∀ w', Below w.heap.size w w' → (Instr.lookup 51 (.map (some b)) (enV x) false).run Try.prog w' = .ok (.slice A (Q x).length c) w' := by
  obtain ⟨h1, m, h2, h3⟩ := h
  have h4 := h2.look hx
  have h4' := fun (w' : World) (hb : Below w.heap.size w w') => (h2.kept (below_grown hb) (by simp)).look hx
  obtain ⟨h5, ⟨h6, h7⟩ | ⟨A, c, h6, hne, h8, h9, h10⟩⟩ := h3 x
  · rw [h6] at h4 h4'
    exact ⟨none, 0, by rw [h7]; exact h4, by rw [h7]; exact Nat.zero_le _, by decide, .inl h7, h5, fun _ => rfl, fun w' hb => by rw [h7]; exact h4' w' hb⟩
  · rw [h6] at h4 h4'
    exact ⟨A, c, h4, h8, h9, h10, h5, fun h0 => absurd (List.eq_nil_of_length_eq_zero h0) hne, h4'⟩
theorem drew_from {w w' : World} (h : Below w.heap.size w w') : Below w.drew.heap.size w.drew w' := ⟨h.os, h.tape, h.output, h.size, h.block⟩
/-- The row is put into the map. -/
theorem send_put {w w4 : World} {g b n : Nat} {Q : En → List Lt} {x : En} (h : LK w g b n Q) (hb : Below w.heap.size w w4) (hx : x.wf) (hn : n < maxLen) (v : Value) :
    ∃ w5, (Instr.mapUpdate 51 (.map (some b)) (.agg #[.int .i64 x.1, .int .i64 x.2]) v).run Try.prog w4 = .ok () w5 ∧ ∃ m, Queues w m n Q ∧ LM w5 b (n + 1) (upd m x (some v)) ∧ w4.mapTurned w5 b := by
  obtain ⟨_, m, h2, h3⟩ := h
  obtain ⟨w5, g1, g2, g3⟩ := (h2.kept (below_grown hb) (by simp)).put hn hx v
  exact ⟨w5, g1, m, h3, g2, g3⟩
theorem blk_keep13 {w w1 : World} {b : Nat} {l : Lt} {o : Wh} (hb : Below w.heap.size w w1) (h : w.heap[b]? = some (.cells (ltC l o).toArray 33 (0, 0))) : w1.heap[b]? = some (.cells #[.int .i64 l.kind, .int .i64 l.num, .int .i64 l.slot, .int .i64 l.ends, .string l.key, .string l.text, .slice o.a l.args.length o.ac, .int .i64 l.rep.k, .int .i64 l.rep.z, .string l.rep.t, .slice o.r l.rep.l.length o.rc, .bool l.good, .int .i64 l.asking] 33 (0, 0)) := keep_blk hb h
set_option maxHeartbeats 4000000 in
theorem send_is (g b n : Nat) (Q : En → List Lt) (x y : Int) (l : Lt) (o : Wh) (w : World) (h : LK w g b n Q) (hx : En.wf (x, y)) (hn : n < 1000000) (hO : LtO w l o) (ht : Tiny l.rep) (ha : l.args.length ≤ 1000000) :
    Calls Try.prog 13 #[.pointer (some ⟨g, 0, none⟩), .int .i64 x, .int .i64 y, ltV l o] w fun e w' => e = .returned (.tuple #[]) ∧ LK w' g b (n + 1) (qadd Q (x, y) l) ∧ w.grownBy w' (some b) ∧ ((∀ z, Q z = []) → ∀ w'', KeepsFrom w.heap.size w' w'' → w''.heap[b]? = w'.heap[b]? → w''.cell? ⟨g, 0, none⟩ = some (.map (some b)) → LK w'' g b (n + 1) (qadd Q (x, y) l)) := by
  have HN := Lib.hid (new1 w #[.int .i64 l.kind, .int .i64 l.num, .int .i64 l.slot, .int .i64 l.ends, .string l.key, .string l.text, .slice o.a l.args.length o.ac, .int .i64 l.rep.k, .int .i64 l.rep.z, .string l.rep.t, .slice o.r l.rep.l.length o.rc, .bool l.good, .int .i64 l.asking] 33)
  obtain ⟨W, hW⟩ : ∃ W, W = w.alloc (.cells #[.int .i64 l.kind, .int .i64 l.num, .int .i64 l.slot, .int .i64 l.ends, .string l.key, .string l.text, .slice o.a l.args.length o.ac, .int .i64 l.rep.k, .int .i64 l.rep.z, .string l.rep.t, .slice o.r l.rep.l.length o.rc, .bool l.good, .int .i64 l.asking] 33) := ⟨_, rfl⟩
  have hWz : W.heap.size = w.heap.size + 1 := by rw [hW, alloc_size]
  have HW := Lib.hid hW
  rw [← hW] at HN
  clear hW
  have HZ := Lib.hid hWz
  clear hWz
  have HL := Lib.hid h
  have HO := Lib.hid hO
  have HB := Lib.hid HN.out.2
  have HA := Lib.hid ((args_is o.a l.args o.ac W.drew (rd_keeps (rd_keeps HO.out.1 (keeps_below HB.out)) (fun p v h => h)) ha).mono (R' := fun e w' => ∃ A' c', e = .returned (.slice A' l.args.length c') ∧ (∀ w'', KeepsFrom W.heap.size w' w'' → Rd w'' A' l.args) ∧ Below W.heap.size W w') (fun e w' ⟨A', c', h1, h2, h3⟩ => ⟨A', c', h1, h2, ((Below.refl _ _).drew).trans h3⟩))
  have HC := Lib.hid (fun (wx : World) (hb : Below W.heap.size W wx) => copied_is l.rep o.r o.rc wx ((HO.out.2.below HB.out).below hb) ht)
  clear h hO
  obtain ⟨x0, x1, x2, x3, x4, x5, x6, x7, x8, x9, x10, x11, x12⟩ := cells13 HN.out.1
  go_enter Try.func13, Try.ntmps13
  go_upto_region 1 with fail
  rw [← HW.out]
  go_cut [7] (fun s7 wx => s7 = .pointer (some ⟨w.heap.size, 0, none⟩) ∧ ∃ o', RowKit.Hid (wx.heap[w.heap.size]? = some (.cells (ltC l o').toArray 33 (0, 0))) ∧ RowKit.Hid (LtF (w.heap.size + 1) wx l o') ∧ RowKit.Hid (Below w.heap.size w wx))
  case first =>
    go_region_with (first
      | (go_at_call 23; refine Calls.mono HA.out ?_; (rintro e w2 ⟨A2, c2, rfl, hr2, hb2⟩; have HB2 := Lib.hid hb2; have HR2 := Lib.hid hr2; have HX2 := Lib.hid (keep13 hb2 HN.out.1); clear hb2 hr2; obtain ⟨y0, y1, y2, y3, y4, y5, y6, y7, y8, y9, y10, y11, y12⟩ := cells13 HX2.out))
      | (go_at_call 24; refine Calls.mono (HC.out _ HB2.out) ?_; (rintro e w3 ⟨A3, c3, rfl, hr3, hb3⟩; have HB3 := Lib.hid hb3; have HR3 := Lib.hid hr3; have HX3 := Lib.hid (keep13 hb3 HX2.out); clear hb3 hr3; obtain ⟨z0, z1, z2, z3, z4, z5, z6, z7, z8, z9, z10, z11, z12⟩ := cells13 HX3.out; obtain ⟨f0, f1, f2, f3, f4, f5, f6, f7, f8, f9, f10, f11, f12⟩ := frees13 HX3.out)))
    all_goals
      go_wp2
      go_meet
      refine ⟨rfl, ⟨A2, c2, A3, c3⟩, Lib.hid (box_sets HX3.out), Lib.hid ?_, Lib.hid (below_set5 ((HB.out.trans (HB2.out.mono HB.out.size)).trans (HB3.out.mono (Nat.le_trans HB.out.size HB2.out.size))) (Nat.le_refl _))⟩
      have hsz := HZ.out
      have hz2 := HB2.out.size
      have k1 : KeepsFrom W.heap.size w2 w3 := (keeps_below HB3.out).fromAt _
      have k2 : KeepsFrom (w.heap.size + 1) w3 _ := kf_set5 (b := w.heap.size) (u0 := .slice A2 l.args.length c2) (u1 := .int .i64 l.rep.k) (u2 := .int .i64 l.rep.z) (u3 := .string l.rep.t) (u4 := .slice A3 l.rep.l.length c3) (Nat.lt_succ_self _)
      intro w' hk
      exact ⟨HR2.out w' (k1.trans ((k2.trans hk).mono (by omega))), HR3.out w' ((k2.trans hk).mono (by omega))⟩
  case rest =>
    obtain ⟨rfl, o', H7, HF, HB7⟩ := hcut
    obtain ⟨w7, hw7⟩ : ∃ w7, w7 = wc := ⟨_, rfl⟩
    rw [← hw7] at H7 HF HB7 ⊢
    clear hw7 x0 x1 x2 x3 x4 x5 x6 x7 x8 x9 x10 x11 x12
    have HK7 := Lib.hid (new1 w7 #[.int .i64 x, .int .i64 y] 40)
    obtain ⟨W3, hW3⟩ : ∃ W3, W3 = w7.alloc (.cells #[.int .i64 x, .int .i64 y] 40) := ⟨_, rfl⟩
    have HW3 := Lib.hid hW3
    rw [← hW3] at HK7
    clear hW3
    have HB3 := Lib.hid (HB7.out.trans (HK7.out.2.mono HB7.out.size))
    have hbb : b < w.heap.size := HL.out.isMap.elim fun _ h => h.elim fun _ h => lt_of_blk h
    have hgg : g < w.heap.size := lt_of_cell HL.out.cell
    have hL3 : LK W3.drew g b n Q := (HL.out.below HB3.out).below ((Below.refl _ _).drew)
    have HX3 := Lib.hid (blk_keep13 HK7.out.2 H7.out)
    have HF3 := Lib.hid (HF.out.keeps ((keeps_below HK7.out.2).fromAt _))
    obtain ⟨A, c, hlook, h1, h2, hrd, h4, hA0, hlookB⟩ := look_all hL3 hx
    obtain ⟨N, hN⟩ : ∃ N, N = (Q (x, y)).length := ⟨_, rfl⟩
    have HN3 := Lib.hid hN
    rw [← hN] at hlook h1 h4 hA0 hlookB
    clear hN
    have hlook' : (Instr.lookup 51 (.map (some b)) (.agg #[.int .i64 x, .int .i64 y]) false).run Try.prog W3.drew = .ok (.slice A N c) W3.drew := hlook
    clear hlook
    have HRD := Lib.hid hrd
    have HCL := Lib.hid (fun (wx : World) => clip_is A N c wx h1 h2)
    obtain ⟨z0, z1, z2, z3, z4, z5, z6, z7, z8, z9, z10, z11, z12⟩ := cells13 HX3.out
    obtain ⟨k0, k1⟩ := cells2 HK7.out.1
    have hc := cell_below HB3.out HL.out.cell
    obtain ⟨WA, hWA⟩ : ∃ WA, WA = (W3.alloc (.cells #[.int .i64 l.kind, .int .i64 l.num, .int .i64 l.slot, .int .i64 l.ends, .string l.key, .string l.text, .slice o'.a l.args.length o'.ac, .int .i64 l.rep.k, .int .i64 l.rep.z, .string l.rep.t, .slice o'.r l.rep.l.length o'.rc, .bool l.good, .int .i64 l.asking] 33)).drew := ⟨_, rfl⟩
    have HWA := Lib.hid hWA
    have HBA := Lib.hid (show Below W3.heap.size W3 WA by rw [hWA]; exact ((Below.refl _ _).alloc (Nat.le_refl _) _).drew)
    have HBX := Lib.hid (show WA.heap[W3.heap.size]? = some (.cells (ltC l o').toArray 33 (0, 0)) by rw [hWA]; exact heap_alloc_new W3 _)
    clear hWA hL3
    have HAPP := Lib.hid (app_letter WA A N (Q (x, y)) HN3.out.symm (by omega) hA0 ((HRD.out.keeps (w' := W3) (fun _ _ h => h)).keeps (keeps_below HBA.out)) W3.heap.size l o' (fun j u e => by rw [of_blk HBX.out, Nat.zero_add, ← List.getElem?_toArray] at *; exact e) ((HF3.out.o).keeps (keeps_below HBA.out)))
    have HLA := Lib.hid (HL.out.below (HB3.out.trans (HBA.out.mono HB3.out.size)))
    have hgA := cell_below HBA.out hc
    have kA0 := cell_below HBA.out k0
    have kA1 := cell_below HBA.out k1
    have hlookA : (Instr.lookup 51 (.map (some b)) (.agg #[.int .i64 x, .int .i64 y]) false).run Try.prog WA = .ok (.slice A N c) WA := hlookB WA (drew_from HBA.out)
    have HPUT := Lib.hid (fun (w4 : World) (hb : Below WA.heap.size WA w4) (v : Value) => send_put (g := g) (n := n) (Q := Q) (x := (x, y)) HLA.out hb hx (by simp only [maxLen]; omega) v)
    have KGA := Lib.hid hgA
    have KA0 := Lib.hid kA0
    have KA1 := Lib.hid kA1
    rw [HWA.out] at HAPP hlookA
    clear h4 hrd
    go_upto_region 3 with fail
    rw [← HW3.out]
    have HS3 : W3.cell? ⟨g, 0, none⟩ = some (.map (some b)) ∧ W3.cell? ⟨w7.heap.size, 0, none⟩ = some (.int .i64 x) ∧ W3.cell? ⟨w7.heap.size, 1, none⟩ = some (.int .i64 y) ∧ W3.cell? ⟨w.heap.size, 0, none⟩ = some (.int .i64 l.kind) ∧ W3.cell? ⟨w.heap.size, 1, none⟩ = some (.int .i64 l.num) ∧ W3.cell? ⟨w.heap.size, 2, none⟩ = some (.int .i64 l.slot) ∧ W3.cell? ⟨w.heap.size, 3, none⟩ = some (.int .i64 l.ends) ∧ W3.cell? ⟨w.heap.size, 4, none⟩ = some (.string l.key) ∧ W3.cell? ⟨w.heap.size, 5, none⟩ = some (.string l.text) ∧ W3.cell? ⟨w.heap.size, 6, none⟩ = some (.slice o'.a l.args.length o'.ac) ∧ W3.cell? ⟨w.heap.size, 7, none⟩ = some (.int .i64 l.rep.k) ∧ W3.cell? ⟨w.heap.size, 8, none⟩ = some (.int .i64 l.rep.z) ∧ W3.cell? ⟨w.heap.size, 9, none⟩ = some (.string l.rep.t) ∧ W3.cell? ⟨w.heap.size, 10, none⟩ = some (.slice o'.r l.rep.l.length o'.rc) ∧ W3.cell? ⟨w.heap.size, 11, none⟩ = some (.bool l.good) ∧ W3.cell? ⟨w.heap.size, 12, none⟩ = some (.int .i64 l.asking) := ⟨hc, k0, k1, z0, z1, z2, z3, z4, z5, z6, z7, z8, z9, z10, z11, z12⟩
    have HSK := Lib.hid (fun (w' : World) (hk : Keeps W3 w') => (show w'.cell? ⟨g, 0, none⟩ = some (.map (some b)) ∧ w'.cell? ⟨w7.heap.size, 0, none⟩ = some (.int .i64 x) ∧ w'.cell? ⟨w7.heap.size, 1, none⟩ = some (.int .i64 y) ∧ w'.cell? ⟨w.heap.size, 0, none⟩ = some (.int .i64 l.kind) ∧ w'.cell? ⟨w.heap.size, 1, none⟩ = some (.int .i64 l.num) ∧ w'.cell? ⟨w.heap.size, 2, none⟩ = some (.int .i64 l.slot) ∧ w'.cell? ⟨w.heap.size, 3, none⟩ = some (.int .i64 l.ends) ∧ w'.cell? ⟨w.heap.size, 4, none⟩ = some (.string l.key) ∧ w'.cell? ⟨w.heap.size, 5, none⟩ = some (.string l.text) ∧ w'.cell? ⟨w.heap.size, 6, none⟩ = some (.slice o'.a l.args.length o'.ac) ∧ w'.cell? ⟨w.heap.size, 7, none⟩ = some (.int .i64 l.rep.k) ∧ w'.cell? ⟨w.heap.size, 8, none⟩ = some (.int .i64 l.rep.z) ∧ w'.cell? ⟨w.heap.size, 9, none⟩ = some (.string l.rep.t) ∧ w'.cell? ⟨w.heap.size, 10, none⟩ = some (.slice o'.r l.rep.l.length o'.rc) ∧ w'.cell? ⟨w.heap.size, 11, none⟩ = some (.bool l.good) ∧ w'.cell? ⟨w.heap.size, 12, none⟩ = some (.int .i64 l.asking) from ⟨hk _ _ hc, hk _ _ k0, hk _ _ k1, hk _ _ z0, hk _ _ z1, hk _ _ z2, hk _ _ z3, hk _ _ z4, hk _ _ z5, hk _ _ z6, hk _ _ z7, hk _ _ z8, hk _ _ z9, hk _ _ z10, hk _ _ z11, hk _ _ z12⟩))
    have hSA := HSK.out _ (keeps_below HBA.out)
    have HKA := Lib.hid (keeps_below HBA.out)
    rw [HWA.out] at hSA
    clear hc k0 k1 z0 z1 z2 z3 z4 z5 z6 z7 z8 z9 z10 z11 z12 hgA kA0 kA1 KGA KA0 KA1
    go_region_held3 (fun w' => w'.cell? ⟨g, 0, none⟩ = some (.map (some b)) ∧ w'.cell? ⟨w7.heap.size, 0, none⟩ = some (.int .i64 x) ∧ w'.cell? ⟨w7.heap.size, 1, none⟩ = some (.int .i64 y) ∧ w'.cell? ⟨w.heap.size, 0, none⟩ = some (.int .i64 l.kind) ∧ w'.cell? ⟨w.heap.size, 1, none⟩ = some (.int .i64 l.num) ∧ w'.cell? ⟨w.heap.size, 2, none⟩ = some (.int .i64 l.slot) ∧ w'.cell? ⟨w.heap.size, 3, none⟩ = some (.int .i64 l.ends) ∧ w'.cell? ⟨w.heap.size, 4, none⟩ = some (.string l.key) ∧ w'.cell? ⟨w.heap.size, 5, none⟩ = some (.string l.text) ∧ w'.cell? ⟨w.heap.size, 6, none⟩ = some (.slice o'.a l.args.length o'.ac) ∧ w'.cell? ⟨w.heap.size, 7, none⟩ = some (.int .i64 l.rep.k) ∧ w'.cell? ⟨w.heap.size, 8, none⟩ = some (.int .i64 l.rep.z) ∧ w'.cell? ⟨w.heap.size, 9, none⟩ = some (.string l.rep.t) ∧ w'.cell? ⟨w.heap.size, 10, none⟩ = some (.slice o'.r l.rep.l.length o'.rc) ∧ w'.cell? ⟨w.heap.size, 11, none⟩ = some (.bool l.good) ∧ w'.cell? ⟨w.heap.size, 12, none⟩ = some (.int .i64 l.asking))
      (first | exact HS3 | exact hSA | exact hS4 | exact hS5)
      (first
      | (refine Own.step_append_run rfl (.tmp 31) (.tmp 33) 63 63 rfl (.slice A N N) (.slice (some ⟨W3.heap.size, 0, none⟩) 1 1) rfl rfl _ (by exact HAPP.out) ?_; (rintro v4 w4 ⟨⟨g4, c4, rfl, hn4, hc4, hr4, hg4, hl4⟩, hb4⟩; rw [← HWA.out] at hb4; have HB4 := Lib.hid hb4; have hS4 := HSK.out _ (HKA.out.trans (keeps_below hb4)); have HR4 := Lib.hid hr4; have HN4 := Lib.hid hn4; have HC4 := Lib.hid hc4; have HG4 := Lib.hid hg4; have HL4 := Lib.hid hl4; obtain ⟨w5, hup, hP5⟩ := HPUT.out w4 hb4 (.slice (some ⟨g4, 0, none⟩) (N + 1) c4); have HP5 := Lib.hid hP5; have hS5 := HSK.out _ ((HKA.out.trans (keeps_below hb4)).trans (hP5.elim fun m h => turn_keeps h.2.2)); clear hP5 hb4 hr4 hn4 hc4 hg4 hl4))
      | (go_at_call 25; refine Calls.mono (HCL.out _) ?_; rintro e w2 ⟨rfl, rfl⟩))
    all_goals
      go_wp2
      go_end0
      rw [← HWA.out] at HG4
      exact ⟨rfl, send_end HL.out HB3.out HBA.out HB4.out HN3.out HP5.out HN4.out HC4.out HR4.out HG4.out HL4.out HF3.out⟩
end Go.Proofs.Ytmflalnajinejaa.T
