import Derived.Deep.DeepCutAuto
import Derived.Laws.OwnMore
import Derived.OwnWalk
import Derived.Lib.AppendStr
import Derived.Lib.SliceRun
import Derived.Lib.SmallJoins
import Derived.IntWalk
import Derived.Lib.ItoaLen
import Derived.Deep.AppendLies
import Derived.Test.YtdfijefgklhmdaaDoorProg
import Derived.Test.YtdfijefgklhmdaaDoorShelf
import Derived.Test.YtdfijefgklhmdaaDoorMem
import Derived.Deep.RegionLaw
import Derived.Test.YtdfijefgklhmdaaDoorSj
import Derived.WalkKit
import Derived.Outline
import Derived.WalkLawsBesides
import Derived.Deep.QuietTactic
import Derived.BigQuiet
import Derived.Lib.Hide
import Derived.Handy
import Derived.Deep.RegionHeld3
import Derived.Deep.DrawnRows
import Derived.KernelRfl
import Derived.Great.Walk
import Derived.Test.YtdfijefgklhmdaaDoorOwn
namespace Go.Proofs.YtdfijefgklhmdaaDoor.T
open Go Go.RowKit Go.Sort Mem Own
set_option maxRecDepth 100000
set_option maxHeartbeats 1000000
set_option linter.unusedVariables false
set_option linter.unusedSimpArgs false

theorem stands_any (g : Nat) (C : Option Addr) (k : Nat) (D : Dr) (A : Option Addr) (n c : Nat) (B T call : Int) (Q : Option Addr) (qn qc : Nat) (ep : Int) (fl : Bool) (w : World) (nx : Int) (L : List ByteArray) (b : Bool)
    {Q0 : Option Addr} {q0 : Nat} (hD : DrRd w g C k Q0 q0 D) (hl : D.plan.length ≤ 1000) (hd : D.dn ≤ D.plan.length) (hn : (D.plan.length : Int) - (D.dn : Int) = (n : Int)) (hf : D.failed = fl) (hL : L.length ≤ 100)
    (h1 : ∀ wx, Below w.heap.size w wx → Calls Tryd.prog 13 #[.pointer (some ⟨g, 0, none⟩)] wx (NextOut nx L b wx))
    (h2 : ∀ wx, Below w.heap.size w wx → Calls Tryd.prog 23 #[.agg #[.slice A n c, .int .i64 B, .int .i64 T, .int .i64 call, .slice Q qn qc, .int .i64 ep, .bool fl]] wx (NextOut nx L b wx)) :
    Calls Tryd.prog 11 #[.pointer (some ⟨g, 0, none⟩), .agg #[.slice A n c, .int .i64 B, .int .i64 T, .int .i64 call, .slice Q qn qc, .int .i64 ep, .bool fl]] w fun e w' => e = .returned (.bool true) ∧ Below w.heap.size w w' := by
  have HD := Lib.hid hD; have H1 := Lib.hid h1; have H2 := Lib.hid h2; have HN := Lib.hid hn; have HF := Lib.hid hf; have HL := Lib.hid hL
  have HLE := Lib.hid hl; have HDE := Lib.hid hd
  have HBX := Lib.hid (heap_alloc_new w (.cells #[.slice A n c, .int .i64 B, .int .i64 T, .int .i64 call, .slice Q qn qc, .int .i64 ep, .bool fl] 32))
  have HB0 := Lib.hid ((Below.refl w.heap.size w).alloc (Nat.le_refl _) (.cells #[.slice A n c, .int .i64 B, .int .i64 T, .int .i64 call, .slice Q qn qc, .int .i64 ep, .bool fl] 32))
  clear hD h1 h2 hn hf hL hl hd
  go_enter Tryd.func11, Tryd.ntmps11
  go_upto_region 3 with (first
    | (go_at_call 13; refine Calls.mono (H1.out _ HB0.out) ?_; rintro e w1 ⟨A1, c1, rfl, HR1, hb1⟩; have HX1 := Lib.hid (keep_block hb1 HBX.out); have HB1 := Lib.hid (HB0.out.trans (hb1.mono HB0.out.size)); have hz1 := HB1.out.size; obtain ⟨y0, y1, y2, y3, y4, y5, y6⟩ := facts7 HX1.out)
    | (go_at_call 23; refine Calls.mono (H2.out _ HB1.out) ?_; rintro e w2 ⟨A2, c2, rfl, HR2, hb2⟩; have HX2 := Lib.hid (keep_block hb2 HX1.out); have HB2 := Lib.hid (HB1.out.trans (hb2.mono hz1)); have hz2 := HB2.out.size; clear y0 y1 y2 y3 y4 y5 y6))
  obtain ⟨y0, y1, y2, y3, y4, y5, y6⟩ := facts7 HX2.out
  have HR1b := Lib.hid (HR1.out.below hb2)
  have HD2 := Lib.hid (HD.out.below HB2.out)
  clear hb1 hb2
  have hwb := lt_of_block HX2.out
  go_region_held3 (fun w' => w'.cell? ⟨w.heap.size, 0, none⟩ = some (.slice A n c) ∧ w'.cell? ⟨w.heap.size, 6, none⟩ = some (.bool fl) ∧ Below w2.heap.size w2 w')
    (first | exact ⟨u1, u2, hS3⟩ | exact ⟨t1, t2, hS2⟩ | exact ⟨z1, z2, hS1⟩ | (refine ⟨by simpa [go_sem] using y0, by simpa [go_sem] using y6, (by ((repeat (first | exact Below.refl _ _ | (refine Below.drew ?_) | (refine Go.below_drewN ?_ _) | (refine Below.alloc ?_ (by first | (simp; done) | omega | (simp; omega)) _) | (refine Below.setCell ?_ (by first | (simp; done) | omega | (simp; omega)) _) | (refine Below.trans ?_ (Below.mono (by assumption) (by first | (simp; done) | omega | (simp; omega)))))); done))⟩))
    (first
      | (go_at_call 14; refine Calls.mono (refs_is _ _ L L _ _ _ (HR1b.out.below ?_) (HR2.out.below ?_) (by have := HL.out; unfold maxLen; omega)) ?_; (focus ((repeat (first | exact Below.refl _ _ | (refine Below.drew ?_) | (refine Go.below_drewN ?_ _) | (refine Below.alloc ?_ (by first | (simp; done) | omega | (simp; omega)) _) | (refine Below.setCell ?_ (by first | (simp; done) | omega | (simp; omega)) _) | (refine Below.trans ?_ (Below.mono (by assumption) (by first | (simp; done) | omega | (simp; omega)))))); done)); (focus ((repeat (first | exact Below.refl _ _ | (refine Below.drew ?_) | (refine Go.below_drewN ?_ _) | (refine Below.alloc ?_ (by first | (simp; done) | omega | (simp; omega)) _) | (refine Below.setCell ?_ (by first | (simp; done) | omega | (simp; omega)) _) | (refine Below.trans ?_ (Below.mono (by assumption) (by first | (simp; done) | omega | (simp; omega)))))); done)); rintro e w5 ⟨rfl, hb5⟩; rw [decide_eq_true rfl]; have hS1 : RowKit.Below w2.heap.size w2 w5 := (by ((repeat (first | exact Below.refl _ _ | (refine Below.drew ?_) | (refine Go.below_drewN ?_ _) | (refine Below.alloc ?_ (by first | (simp; done) | omega | (simp; omega)) _) | (refine Below.setCell ?_ (by first | (simp; done) | omega | (simp; omega)) _) | (refine Below.trans ?_ (Below.mono (by assumption) (by first | (simp; done) | omega | (simp; omega)))))); done)); have z1 := cell_below hS1 y0; have z2 := cell_below hS1 y6)
      | (go_at_call 16; refine Calls.mono (left_is g C k Q0 q0 D _ (HD2.out.below hS1) HLE.out HDE.out) ?_; rintro e w6 ⟨rfl, hb6⟩; rw [HN.out]; have hS2 : RowKit.Below w2.heap.size w2 w6 := hS1.trans (hb6.mono hS1.size); have t1 := cell_below hS2 y0; have t2 := cell_below hS2 y6)
      | (go_at_call 18; refine Calls.mono (failed_is g C k Q0 q0 D _ (HD2.out.below hS2)) ?_; rintro e w7 ⟨rfl, hb7⟩; rw [HF.out]; have hS3 : RowKit.Below w2.heap.size w2 w7 := hS2.trans (hb7.mono hS2.size); have u1 := cell_below hS3 y0; have u2 := cell_below hS3 y6))
  all_goals
    go_wp2
    go_ret
    exact ⟨by first | rfl | simp, HB2.out.trans (hS3.mono hz2)⟩
theorem sim_end {D : Dr} {R : Rv} (hok : DrOk D) (hs : Sim D R) : (R.failed = true ∨ R.plan.length = 0) ↔ atEnd D := by
  unfold atEnd
  rw [hs.failed, hs.plan, List.length_drop]
  have := hok.dn
  constructor <;> (rintro (h | h); exact .inl h; right; omega)
theorem stands_sim {g : Nat} {P : Option Addr} {pc : Nat} {Q0 : Option Addr} {q0 : Nat} {D : Dr} {R : Rv} {A : Option Addr} {c : Nat} {Q : Option Addr} {qc : Nat} {w : World} (hD : DrRd w g P pc Q0 q0 D) (hok : DrOk D) (hs : Sim D R) (ha : RdM w A R.plan) (hq : Rd w Q R.queue) (hT : Tab w) :
    Calls Tryd.prog 11 #[.pointer (some ⟨g, 0, none⟩), rvV R A c Q qc] w fun e w' => e = .returned (.bool true) ∧ Below w.heap.size w w' := by
  have hlen : R.plan.length = D.plan.length - D.dn := by rw [hs.plan, List.length_drop]
  have hN := fun wx (hb : Below w.heap.size w wx) => rnext_sim (c := c) (qc := qc) hok hs (ha.below hb) (hq.below hb)
  have hdn := hok.dn
  have hend := sim_end hok hs
  obtain ⟨l, B, T, call, q, ep, fl⟩ := R
  dsimp only at hN hlen hend
  by_cases he : fl = true ∨ l.length = 0
  · refine stands_any g P pc D A l.length c B T call Q q.length qc ep fl w 0 [] false hD hok.len hok.dn (by omega) hs.failed.symm (by simp) (fun wx hb => next_end g P pc Q0 q0 D wx (hD.below hb) (hend.1 he)) (fun wx hb => ?_)
    have := hN wx hb; rw [if_pos he] at this; exact this
  · refine stands_any g P pc D A l.length c B T call Q q.length qc ep fl w (nextN D) (nextL D) true hD hok.len hok.dn (by omega) hs.failed.symm ?_ (fun wx hb => next_main g P pc Q0 q0 D wx (hD.below hb) hok (fun h => he (hend.2 h)) (hT.keep hb)) (fun wx hb => ?_)
    · unfold nextL; split; simp; split; simp; split; simp; split; simp; split <;> simp
    · have := hN wx hb; rw [if_neg he] at this; exact this
theorem newD_sim {l : List Mv} {B T : Int} : Sim (newD l B T) ⟨l, B, T, 1, [], 0, false⟩ := ⟨rfl, rfl, fun _ => ⟨rfl, by show T = T + ((0 : Nat) : Int); simp, rfl, (fun h => absurd h (by show ¬ (0 : Int) = 3; decide)), (fun h => absurd h (by show ¬ (0 : Int) = 5; decide))⟩⟩
theorem ansD_queue {D : Dr} {r : Rp} {n : Nat} (h : D.queue.length ≤ n) (hr : r.ks.length ≤ n) : (ansD D r).queue.length ≤ n := by
  have ht : (told r).1.length ≤ n := by
    unfold told; split
    · simpa using hr
    · exact Nat.zero_le _
  unfold ansD
  repeat' split
  all_goals first | exact h | exact ht | (show D.queue.tail.length ≤ n; have := D.queue.length_tail; omega)
theorem new_yes3 {A : Option Addr} {l : List Mv} {c : Nat} {B T : Int} {w : World} (ha : RdM w A l) (hc : l.length ≤ c) (hcm : c ≤ maxLen) (hE : newErr l B T = 0) : Calls Tryd.prog 9 #[.slice A l.length c, .int .i64 B, .int .i64 T] w fun e w' => ∃ (g : Nat) (C : Option Addr) (k : Nat), e = .returned (.tuple #[.pointer (some ⟨g, 0, none⟩), .int .i64 0]) ∧ w.heap.size ≤ g ∧ RowKit.Hid (DrRd w' g C k none 0 (newD l B T)) ∧ RowKit.Hid (∀ b off, C = some ⟨b, off, none⟩ → b < w'.heap.size) ∧ RowKit.Hid (Below w.heap.size w w') := by
  refine (new_is A l c B T w ha hc hcm).mono ?_
  rintro e w' (⟨h, _⟩ | ⟨_, g, C, k, h1, h2, h3, h4, h5⟩)
  · exact absurd hE h
  · exact ⟨g, C, k, h1, h2, Lib.hid (newD_rd h3.out h4.out), Lib.hid (fun b off e => (h4.out.lt b (by rw [e]; rfl)).2), Lib.hid h5⟩
theorem only_keep {w w' : World} {g k : Nat} {o : Obj} (hg : w.grownBy w' (some g)) (h : w.heap[k]? = some o) (hne : k ≠ g) : w'.heap[k]? = some o := by
  rw [hg.block k (lt_of_block h) (fun e => hne (by have := Option.some.inj e; omega))]; exact h
theorem blk_s7 {w : World} {b k : Nat} {o : Obj} (h : w.heap[k]? = some o) (hne : k ≠ b) (u0 u1 u2 u3 u4 u5 u6 : Value) :
    (((((((w.setCell ⟨b, 0, none⟩ u0).setCell ⟨b, 1, none⟩ u1).setCell ⟨b, 2, none⟩ u2).setCell ⟨b, 3, none⟩ u3).setCell ⟨b, 4, none⟩ u4).setCell ⟨b, 5, none⟩ u5).setCell ⟨b, 6, none⟩ u6).heap[k]? = some o :=
  blk_other hne (blk_other hne (blk_other hne (blk_other hne (blk_other hne (blk_other hne (blk_other hne h))))))
/-- What stands while both are answered. -/
structure AlSt (w0 : World) (g : Nat) (P : Option Addr) (pc : Nat) (b7 : Nat) (D : Dr) (R : Rv) (A : Option Addr) (c : Nat) (Q : Option Addr) (qc : Nat) (w : World) : Prop where
  dr : ∃ Q1 q1, DrRd w g P pc Q1 q1 D
  hg : w0.heap.size ≤ g
  h7 : w0.heap.size ≤ b7
  hp : ∀ b off, P = some ⟨b, off, none⟩ → b ≠ b7
  bl : Below w0.heap.size w0 w
  b : w.heap[b7]? = some (.cells #[.slice A R.plan.length c, .int .i64 R.B, .int .i64 R.T, .int .i64 R.call, .slice Q R.queue.length qc, .int .i64 R.ep, .bool R.failed] 32 (0, 0))
  sim : Sim D R
  ok : DrOk D
  dq : D.queue.length ≤ 8796093022000
  pl : RdM w0 A R.plan
  pc : R.plan.length ≤ c
  qu : Rd w Q R.queue
  qc : R.queue.length ≤ qc
section
variable {w0 w w' : World} {g : Nat} {P : Option Addr} {pc b7 : Nat} {D : Dr} {R : Rv} {A : Option Addr} {c : Nat} {Q : Option Addr} {qc : Nat}
theorem AlSt.below (h : AlSt w0 g P pc b7 D R A c Q qc w) (hb : Below w.heap.size w w') : AlSt w0 g P pc b7 D R A c Q qc w' := by
  obtain ⟨Q1, q1, hd⟩ := h.dr
  exact { h with dr := ⟨Q1, q1, hd.below hb⟩, bl := h.bl.trans (hb.mono h.bl.size), b := keep_block hb h.b, qu := h.qu.below hb }
theorem AlSt.ne (h : AlSt w0 g P pc b7 D R A c Q qc w) : b7 ≠ g := by
  obtain ⟨Q1, q1, hd⟩ := h.dr
  exact typ_ne h.b hd.blk (by decide)
theorem AlSt.stands (h : AlSt w0 g P pc b7 D R A c Q qc w) (hT : Tab w0) : Calls Tryd.prog 11 #[.pointer (some ⟨g, 0, none⟩), rvV R A c Q qc] w fun e w' => e = .returned (.bool true) ∧ Below w.heap.size w w' := by
  obtain ⟨Q1, q1, hd⟩ := h.dr
  exact stands_sim hd h.ok h.sim (h.pl.below h.bl) h.qu (hT.keep h.bl)
/-- Between the two answers: the program's driver has gone on. -/
structure AlMid (w0 : World) (g : Nat) (P : Option Addr) (pc : Nat) (b7 : Nat) (D : Dr) (R : Rv) (A : Option Addr) (c : Nat) (Q : Option Addr) (qc : Nat) (r : Rp) (w : World) : Prop where
  dr : ∃ Q1 q1, DrRd w g P pc Q1 q1 (ansD D r)
  hg : w0.heap.size ≤ g
  h7 : w0.heap.size ≤ b7
  hp : ∀ b off, P = some ⟨b, off, none⟩ → b ≠ b7
  bl : Below w0.heap.size w0 w
  b : w.heap[b7]? = some (.cells #[.slice A R.plan.length c, .int .i64 R.B, .int .i64 R.T, .int .i64 R.call, .slice Q R.queue.length qc, .int .i64 R.ep, .bool R.failed] 32 (0, 0))
  sim : Sim D R
  ok : DrOk D
  dq : D.queue.length ≤ 8796093022000
  pl : RdM w0 A R.plan
  pc : R.plan.length ≤ c
  qu : Rd w Q R.queue
  qc : R.queue.length ≤ qc
theorem AlSt.ans (h : AlSt w0 g P pc b7 D R A c Q qc w) (r : Rp) (Ar : Option Addr) (cr : Nat) (hrk : RdK w Ar r.ks) (hkn : r.ks.length ≤ 8796093022000) : Calls Tryd.prog 12 #[.pointer (some ⟨g, 0, none⟩), rpV r Ar cr] w fun e w' => e = .returned (.tuple #[]) ∧ RowKit.Hid (AlMid w0 g P pc b7 D R A c Q qc r w') ∧ RowKit.Hid (w.grownBy w' (some g)) := by
  obtain ⟨Q1, q1, hd⟩ := h.dr
  refine (ans_is g P pc Q1 q1 D r Ar cr w hd h.ok hrk hkn).mono ?_
  rintro e w' ⟨rfl, Q', qc', k1, k2⟩
  exact ⟨rfl, Lib.hid ⟨⟨Q', qc', k1.out⟩, h.hg, h.h7, h.hp, h.bl.trans (below_only k2.out h.bl.size h.hg), only_keep k2.out h.b h.ne, h.sim, h.ok, h.dq, h.pl, h.pc, rd_drv hd k2.out h.qu, h.qc⟩, k2⟩
theorem AlMid.rans {r : Rp} (h : AlMid w0 g P pc b7 D R A c Q qc r w) (Ar : Option Addr) (cr : Nat) (hrk : RdK w Ar r.ks) (hkn : r.ks.length ≤ 8796093022000) (hz : -9223372036854775808 ≤ r.z ∧ r.z ≤ 9223372036854775807) : Calls Tryd.prog 15 #[rvV R A c Q qc, rpV r Ar cr] w fun e w' => ∃ (R' : Rv) (A' : Option Addr) (c' : Nat) (Q' : Option Addr) (qc' : Nat), e = .returned (rvV R' A' c' Q' qc') ∧ RowKit.Hid (w'.heap[b7]? = some (.cells #[.slice A R.plan.length c, .int .i64 R.B, .int .i64 R.T, .int .i64 R.call, .slice Q R.queue.length qc, .int .i64 R.ep, .bool R.failed] 32 (0, 0))) ∧
    RowKit.Hid (AlSt w0 g P pc b7 (ansD D r) R' A' c' Q' qc' (((((((w'.setCell ⟨b7, 0, none⟩ (.slice A' R'.plan.length c')).setCell ⟨b7, 1, none⟩ (.int .i64 R'.B)).setCell ⟨b7, 2, none⟩ (.int .i64 R'.T)).setCell ⟨b7, 3, none⟩ (.int .i64 R'.call)).setCell ⟨b7, 4, none⟩ (.slice Q' R'.queue.length qc')).setCell ⟨b7, 5, none⟩ (.int .i64 R'.ep)).setCell ⟨b7, 6, none⟩ (.bool R'.failed))) := by
  obtain ⟨Q1, q1, hd⟩ := h.dr
  refine (rans_sim h.ok h.sim h.pc (h.pl.below h.bl) h.qu h.qc h.dq hrk hkn).mono ?_
  rintro e w' ⟨R', A', c', Q', qc', rfl, k1, k2, k3, k4, k5, hb⟩
  have h7 := keep_block hb h.b
  have hd' := hd.below hb
  have hne : g ≠ b7 := (typ_ne h7 hd'.blk (by decide)).symm
  refine ⟨R', A', c', Q', qc', rfl, Lib.hid h7, Lib.hid ⟨⟨Q1, q1, ?_⟩, h.hg, h.h7, h.hp, below_s7 (h.bl.trans (hb.mono h.bl.size)) h.h7, set7 _ _ _ _ _ _ _ h7, k1, ansD_ok h.ok hz, ansD_queue h.dq hkn, k2 _ h.pl, k3, rd_s7n h7 (by simp) (by simp) (by simp) (by simp) (by simp) (by simp) (by simp) k4 _ _ _ _ _ _ _, k5⟩⟩
  exact ⟨blk_s7 hd'.blk hne _ _ _ _ _ _ _, rdm_s7 hd'.pl (fun b' off e _ => h.hp b' off e) _ _ _ _ _ _ _, rd_s7n h7 (by simp) (by simp) (by simp) (by simp) (by simp) (by simp) (by simp) hd'.qu _ _ _ _ _ _ _, hd'.np, hd'.nq, hd'.cp⟩
end
end Go.Proofs.YtdfijefgklhmdaaDoor.T
