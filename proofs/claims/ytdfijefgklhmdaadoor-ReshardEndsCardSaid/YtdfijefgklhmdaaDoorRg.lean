import Derived.Deep.DeepCutAuto
import Derived.Laws.OwnMore
import Derived.OwnWalk
import Derived.Lib.AppendStr
import Derived.Lib.SliceRun
import Derived.Lib.SmallJoins
import Derived.IntWalk
import Derived.Lib.ItoaLen
import Derived.Test.YtdfijefgklhmdaaDoorProg
import Derived.Test.YtdfijefgklhmdaaDoorShelf
import Derived.Test.YtdfijefgklhmdaaDoorMem
import Derived.Test.YtdfijefgklhmdaaDoorR1
import Derived.Test.YtdfijefgklhmdaaDoorRa
import Derived.Test.YtdfijefgklhmdaaDoorRb
import Derived.Test.YtdfijefgklhmdaaDoorRc
import Derived.WalkKit
import Derived.Outline
import Derived.WalkLawsBesides
import Derived.Deep.QuietTactic
import Derived.BigQuiet
import Derived.Lib.Hide
import Derived.Handy
import Derived.Deep.RegionHeld3
import Derived.Deep.DrawnRows
import Derived.KernelRfl
import Derived.Great.Walk
import Derived.Test.YtdfijefgklhmdaaDoorOwn
namespace Go.Proofs.YtdfijefgklhmdaaDoor.T
open Go Go.RowKit Go.Sort Mem Own
set_option maxRecDepth 100000
set_option maxHeartbeats 1000000
set_option linter.unusedVariables false
set_option linter.unusedSimpArgs false

/-- A driver. -/
structure Dr where
  plan : List Mv
  B : Int
  T : Int
  dn : Nat
  call : Int
  queue : List ByteArray
  ep : Int
  failed : Bool
/-- How a driver lies. -/
structure DrRd (w : World) (g : Nat) (P : Option Addr) (pc : Nat) (Q : Option Addr) (qc : Nat) (D : Dr) : Prop where
  blk : w.heap[g]? = some (.cells #[.slice P D.plan.length pc, .int .i64 D.B, .int .i64 D.T, .int .i64 D.dn, .int .i64 D.call, .slice Q D.queue.length qc, .int .i64 D.ep, .bool D.failed] 60 (0, 0))
  pl : RdM w P D.plan
  qu : Rd w Q D.queue
  np : ∀ b off, P = some ⟨b, off, none⟩ → b ≠ g
  nq : ∀ b off, Q = some ⟨b, off, none⟩ → b ≠ g
  cp : D.queue.length ≤ qc
/-- What is so of every driver that New makes, whatever is answered. -/
structure DrOk (D : Dr) : Prop where
  len : D.plan.length ≤ 1000
  ok : okP D.plan
  bt : 1 ≤ D.B ∧ D.B ≤ 100 ∧ 0 ≤ D.T ∧ D.T ≤ 549755813888
  dn : D.dn ≤ D.plan.length
  call : D.call = 0 ∨ D.call = 1 ∨ D.call = 2 ∨ (D.call = 3 ∧ D.queue ≠ []) ∨ D.call = 4 ∨ D.call = 5 ∨ D.failed = true
  ep : -9223372036854775808 ≤ D.ep ∧ D.ep ≤ 9223372036854775807
def SETSLOT : ByteArray := ⟨#[83, 69, 84, 83, 76, 79, 84]⟩
def nextM (D : Dr) : Mv := D.plan.getD D.dn ⟨0, 0, 0⟩
/-- The next call of a driver that is not at its end. -/
def nextN (D : Dr) : Int := if D.call = 0 ∨ D.call = 5 then (nextM D).t else (nextM D).f
def nextL (D : Dr) : List ByteArray :=
  if D.call = 0 then [SETSLOT, dec (nextM D).s, ⟨#[73, 77, 80, 79, 82, 84, 73, 78, 71]⟩, dec (nextM D).f, dec (D.T + D.dn + 1)]
  else if D.call = 1 then [SETSLOT, dec (nextM D).s, ⟨#[77, 73, 71, 82, 65, 84, 73, 78, 71]⟩, dec (nextM D).t, dec (D.T + D.dn + 1)]
  else if D.call = 2 then [⟨#[75, 69, 89, 83]⟩, dec (nextM D).s, dec D.B]
  else if D.call = 3 then [⟨#[77, 73, 71, 82, 65, 84, 69]⟩, dec (nextM D).s, D.queue.headD ⟨#[]⟩, dec (nextM D).t]
  else if D.call = 4 then [SETSLOT, dec (nextM D).s, ⟨#[78, 79, 68, 69]⟩, dec (nextM D).t]
  else [SETSLOT, dec (nextM D).s, ⟨#[84, 65, 75, 69]⟩, dec D.ep]
theorem next_cases (D : Dr) (m : Mv) (hm : nextM D = m) :
    (D.call = 0 → nextN D = m.t ∧ nextL D = [SETSLOT, dec m.s, ⟨#[73, 77, 80, 79, 82, 84, 73, 78, 71]⟩, dec m.f, dec (D.T + D.dn + 1)]) ∧
    (D.call = 1 → nextN D = m.f ∧ nextL D = [SETSLOT, dec m.s, ⟨#[77, 73, 71, 82, 65, 84, 73, 78, 71]⟩, dec m.t, dec (D.T + D.dn + 1)]) ∧
    (D.call = 2 → nextN D = m.f ∧ nextL D = [⟨#[75, 69, 89, 83]⟩, dec m.s, dec D.B]) ∧
    (D.call = 3 → nextN D = m.f ∧ nextL D = [⟨#[77, 73, 71, 82, 65, 84, 69]⟩, dec m.s, D.queue.headD ⟨#[]⟩, dec m.t]) ∧
    (D.call = 4 → nextN D = m.f ∧ nextL D = [SETSLOT, dec m.s, ⟨#[78, 79, 68, 69]⟩, dec m.t]) ∧
    (D.call = 5 → nextN D = m.t ∧ nextL D = [SETSLOT, dec m.s, ⟨#[84, 65, 75, 69]⟩, dec D.ep]) := by
  subst hm
  refine ⟨?_, ?_, ?_, ?_, ?_, ?_⟩ <;> intro h <;> simp [nextN, nextL, h]
def atEnd (D : Dr) : Prop := D.failed = true ∨ D.dn = D.plan.length
/-- What Next leaves. -/
def NextOut (n : Int) (L : List ByteArray) (b : Bool) (w : World) (e : Ending) (w' : World) : Prop := ∃ A c, e = .returned (.tuple #[.int .i64 n, .slice A L.length c, .bool b]) ∧ RowKit.Hid (Rd w' A L) ∧ Below w.heap.size w w'
theorem next_end (g : Nat) (P : Option Addr) (pc : Nat) (Q : Option Addr) (qc : Nat) (D : Dr) (w : World) (h : DrRd w g P pc Q qc D) (he : atEnd D) : Calls Tryd.prog 13 #[.pointer (some ⟨g, 0, none⟩)] w (NextOut 0 [] false w) := by
  obtain ⟨d0, d1, d2, d3, d4, d5, d6, d7⟩ := facts8 h.blk
  obtain ⟨plan, B, T, dn, call, queue, ep, failed⟩ := D
  dsimp only at d0 d1 d2 d3 d4 d5 d6 d7 he
  unfold atEnd at he
  dsimp only at he
  cases failed with
  | true =>
    go_enter Tryd.func13, Tryd.ntmps13
    go_wp2
    go_quiet (fail)
    go_wp2
    go_ret3
    exact ⟨none, 0, rfl, Lib.hid (.inl rfl), (by ((repeat (first | exact Below.refl _ _ | (refine Below.drew ?_) | (refine Go.below_drewN ?_ _) | (refine Below.alloc ?_ (by first | (simp; done) | omega | (simp; omega)) _) | (refine Below.setCell ?_ (by first | (simp; done) | omega | (simp; omega)) _) | (refine Below.trans ?_ (Below.mono (by assumption) (by first | (simp; done) | omega | (simp; omega)))))); done))⟩
  | false =>
    have hd : dn = plan.length := by rcases he with h | h; cases h; exact h
    have he2 : ((dn : Int) == (plan.length : Int)) = true := by simp [hd]
    go_enter Tryd.func13, Tryd.ntmps13
    go_wp2
    go_quiet (fail)
    go_wp2
    go_ret3
    exact ⟨none, 0, rfl, Lib.hid (.inl rfl), (by ((repeat (first | exact Below.refl _ _ | (refine Below.drew ?_) | (refine Go.below_drewN ?_ _) | (refine Below.alloc ?_ (by first | (simp; done) | omega | (simp; omega)) _) | (refine Below.setCell ?_ (by first | (simp; done) | omega | (simp; omega)) _) | (refine Below.trans ?_ (Below.mono (by assumption) (by first | (simp; done) | omega | (simp; omega)))))); done))⟩
theorem set3 {w : World} {b T : Nat} {v0 v1 v2 : Value} (u0 u1 u2 : Value) (h : w.heap[b]? = some (.cells #[v0, v1, v2] T (0, 0))) :
    (((w.setCell ⟨b, 0, none⟩ u0).setCell ⟨b, 1, none⟩ u1).setCell ⟨b, 2, none⟩ u2).heap[b]? = some (.cells #[u0, u1, u2] T (0, 0)) := by
  have h3 := heap_set (i := 2) (heap_set (i := 1) (heap_set (i := 0) h u0) u1) u2
  simpa using h3
theorem lit_rd (w : World) (l : List ByteArray) : Rd (w.alloc (.cells (l.map Value.string).toArray 9)) (some ⟨w.heap.size, 0, none⟩) l := by
  refine .inr ⟨w.heap.size, 0, rfl, fun i x hx => ?_⟩
  have := of_blk (heap_alloc_new w (.cells (l.map Value.string).toArray 9)) (0 + i)
  rw [this, Nat.zero_add]
  simp [hx]
theorem next_out {n : Int} {L : List ByteArray} {w wx : World} {c : Nat} (hb : Below w.heap.size w wx) : NextOut n L true w (.returned (.tuple #[.int .i64 n, .slice (some ⟨wx.heap.size, 0, none⟩) L.length c, .bool true])) (wx.alloc (.cells (L.map Value.string).toArray 9)) :=
  ⟨_, _, rfl, Lib.hid (lit_rd wx L), hb.alloc hb.size _⟩
theorem next_main (g : Nat) (P : Option Addr) (pc : Nat) (Q : Option Addr) (qc : Nat) (D : Dr) (w : World) (h : DrRd w g P pc Q qc D) (hok : DrOk D) (he : ¬ atEnd D) (hT : Tab w) : Calls Tryd.prog 13 #[.pointer (some ⟨g, 0, none⟩)] w (NextOut (nextN D) (nextL D) true w) := by
  have HBK := Lib.hid h.blk
  have HP := Lib.hid h.pl; have HQ := Lib.hid h.qu; have HT := Lib.hid hT
  have hfl : D.failed = false := by cases hf : D.failed; rfl; exact absurd (.inl hf) he
  have hdl : D.dn < D.plan.length := by have := hok.dn; have : ¬ D.dn = D.plan.length := fun e => he (.inr e); omega
  have hm := hok.ok D.dn hdl _ (List.getElem?_eq_getElem hdl)
  have hmm : nextM D = D.plan[D.dn] := by unfold nextM; rw [List.getD_eq_getElem?_getD, List.getElem?_eq_getElem hdl]; rfl
  obtain ⟨b, off, rfl⟩ := h.pl.addr (by omega)
  obtain ⟨g0, g1, g2⟩ := h.pl.cell hdl
  rw [← hmm] at hm g0 g1 g2
  obtain ⟨bt1, bt2, bt3, bt4⟩ := hok.bt
  obtain ⟨ep1, ep2⟩ := hok.ep
  have hcall := hok.call
  have hlen := hok.len
  have hcq : D.call = 3 → D.queue ≠ [] := by
    intro h3 e; rcases hcall with h | h | h | ⟨h, h'⟩ | h | h | h <;> first | omega | exact h' e | (rw [hfl] at h; cases h)
  have hc6 : D.call = 0 ∨ D.call = 1 ∨ D.call = 2 ∨ D.call = 3 ∨ D.call = 4 ∨ D.call = 5 := by
    rcases hcall with h | h | h | ⟨h, h'⟩ | h | h | h <;> first | omega | (rw [hfl] at h; cases h)
  have HNL := Lib.hid (next_cases D _ hmm)
  generalize nextN D = nn at HNL ⊢
  generalize nextL D = LL at HNL ⊢
  rw [hmm] at hm g0 g1 g2
  clear hmm
  obtain ⟨m, hmd⟩ : ∃ m, m = D.plan[D.dn] := ⟨_, rfl⟩
  rw [← hmd] at hm g0 g1 g2 HNL
  clear hmd he hcall h hok hT
  obtain ⟨s, f, t⟩ := m
  obtain ⟨plan, B, T, dn, call, queue, ep, failed⟩ := D
  dsimp only at HBK HP HQ hfl hdl hm g0 g1 g2 HNL bt1 bt2 bt3 bt4 ep1 ep2 hcq hc6 hlen
  subst hfl
  obtain ⟨⟨m1, m2, ⟨m3, m4⟩, ⟨m5, m6⟩, m7⟩, -⟩ := hm
  dsimp only at m1 m2 m3 m4 m5 m6
  clear m7
  obtain ⟨N, hN⟩ : ∃ N, N = plan.length := ⟨_, rfl⟩
  rw [← hN] at HBK hdl hlen
  clear hN
  have hne : ((dn : Int) == (N : Int)) = false := by rw [beq_eq_false_iff_ne]; omega
  obtain ⟨d0, d1, d2, d3, d4, d5, d6, d7⟩ := facts8 HBK.out
  have HW := Lib.hid (show IntKind.i64.wrap (IntKind.i64.wrap (T + (dn : Int)) + 1) = T + (dn : Int) + 1 by rw [IntKind.wrap_i64, IntKind.wrap_i64]; omega)
  go_enter Tryd.func13, Tryd.ntmps13
  go_wp2
  go_quiet (fail)
  go_wp2
  go_cut [5] (fun s5 wx => ∃ b5 : Nat, s5 = .pointer (some ⟨b5, 0, none⟩) ∧ RowKit.Hid (wx.heap[b5]? = some (.cells #[.int .i64 s, .int .i64 f, .int .i64 t] 37 (0, 0))) ∧ RowKit.Hid (Below w.heap.size w wx))
  case first =>
    have n0 := fun (q : Nat) (o : Obj) => cell_alloc (w := w.drewN q) d0 o
    have n3 := fun (q : Nat) (o : Obj) => cell_alloc (w := w.drewN q) d3 o
    have k0 := fun (q : Nat) (o : Obj) => cell_alloc (w := w.drewN q) g0 o
    have k1 := fun (q : Nat) (o : Obj) => cell_alloc (w := w.drewN q) g1 o
    have k2 := fun (q : Nat) (o : Obj) => cell_alloc (w := w.drewN q) g2 o
    have c0 := fun (q : Nat) (x y z : Value) => (facts3 (heap_alloc_new (w.drewN q) (.cells #[x, y, z] 37))).1
    have c1 := fun (q : Nat) (x y z : Value) => (facts3 (heap_alloc_new (w.drewN q) (.cells #[x, y, z] 37))).2.1
    have c2 := fun (q : Nat) (x y z : Value) => (facts3 (heap_alloc_new (w.drewN q) (.cells #[x, y, z] 37))).2.2
    have cf := fun (q j : Nat) (x y z : Value) => of_blk_free (heap_alloc_new (w.drewN q) (.cells #[x, y, z] 37)) j
    have hsz : ∀ q, (w.drewN q).heap.size = w.heap.size := fun _ => rfl
    simp only [hsz] at c0 c1 c2 cf
    go_region
    go_wp2
    go_meet
    exact ⟨_, rfl, Lib.hid (set3 _ _ _ (heap_alloc_new (w.drewN _) _)), Lib.hid (by ((repeat (first | exact Below.refl _ _ | (refine Below.drew ?_) | (refine Go.below_drewN ?_ _) | (refine Below.alloc ?_ (by first | (simp; done) | omega | (simp; omega)) _) | (refine Below.setCell ?_ (by first | (simp; done) | omega | (simp; omega)) _) | (refine Below.trans ?_ (Below.mono (by assumption) (by first | (simp; done) | omega | (simp; omega)))))); done))⟩
  case rest =>
    obtain ⟨b5, rfl, HX, HB⟩ := hcut
    have hz1 := HB.out.size
    have hb5 := lt_of_block HX.out
    have hg := lt_of_block HBK.out
    clear d0 d1 d2 d3 d4 d5 d6 d7 g0 g1 g2
    obtain ⟨d0, d1, d2, d3, d4, d5, d6, d7⟩ := facts8 (keep_block HB.out HBK.out)
    obtain ⟨x0, x1, x2⟩ := facts3 HX.out
    have hg2 : g < wc.heap.size := by omega
    go_upto_region 4 with fail
    go_cut [6, 7] (fun s6 s7 wx => s6 = .string (dec s) ∧ s7 = .string (dec (T + dn + 1)) ∧ RowKit.Hid (wx.heap[b5]? = some (.cells #[.int .i64 s, .int .i64 f, .int .i64 t] 37 (0, 0))) ∧ RowKit.Hid (Below w.heap.size w wx))
    case first =>
      go_region_held3 (fun w' => w'.cell? ⟨b5, 0, none⟩ = some (.int .i64 s) ∧ w'.cell? ⟨g, 2, none⟩ = some (.int .i64 T) ∧ w'.cell? ⟨g, 3, none⟩ = some (.int .i64 dn) ∧ Below wc.heap.size wc w')
        (((refine ⟨?_, ?_, ?_, ?_⟩ <;> (first | ((repeat (first | exact Below.refl _ _ | (refine Below.drew ?_) | (refine Go.below_drewN ?_ _) | (refine Below.alloc ?_ (by first | (simp; done) | omega | (simp; omega)) _) | (refine Below.setCell ?_ (by first | (simp; done) | omega | (simp; omega)) _) | (refine Below.trans ?_ (Below.mono (by assumption) (by first | (simp; done) | omega | (simp; omega)))))); done) | (simp [go_sem]; done) | (rw [hb2.cell (by first | (simp; done) | omega | (simp; omega))]; (first | (simp only [*]; done) | (simp [go_sem]; done) | (simp [*, go_sem]; done))) | (rw [hb1.cell (by first | (simp; done) | omega | (simp; omega))]; (first | (simp only [*]; done) | (simp [go_sem]; done) | (simp [*, go_sem]; done))) | (simp [*, go_sem]; done)))))
        (first
          | ((fail_if_success (have := hb1)); go_at_call 25; refine Calls.mono (print_is s _ (by omega) (by omega) ((HT.out.keep HB.out).keep ?_)) ?_; (focus ((repeat (first | exact Below.refl _ _ | (refine Below.drew ?_) | (refine Go.below_drewN ?_ _) | (refine Below.alloc ?_ (by first | (simp; done) | omega | (simp; omega)) _) | (refine Below.setCell ?_ (by first | (simp; done) | omega | (simp; omega)) _) | (refine Below.trans ?_ (Below.mono (by assumption) (by first | (simp; done) | omega | (simp; omega)))))); done)); rintro e w1 ⟨rfl, hb1⟩; have hz2 : wc.heap.size ≤ w1.heap.size := (by have := hb1.size; (try simp at this); omega))
          | (go_at_call 25; rw [HW.out]; refine Calls.mono (print_is (T + dn + 1) _ (by omega) (by omega) ((HT.out.keep HB.out).keep ?_)) ?_; (focus ((repeat (first | exact Below.refl _ _ | (refine Below.drew ?_) | (refine Go.below_drewN ?_ _) | (refine Below.alloc ?_ (by first | (simp; done) | omega | (simp; omega)) _) | (refine Below.setCell ?_ (by first | (simp; done) | omega | (simp; omega)) _) | (refine Below.trans ?_ (Below.mono (by assumption) (by first | (simp; done) | omega | (simp; omega)))))); done)); rintro e w2 ⟨rfl, hb2⟩; have hz3 : wc.heap.size ≤ w2.heap.size := (by have := hb2.size; (try simp at this); omega)))
      all_goals
        have hbw : Below wc.heap.size wc w2 := (by ((repeat (first | exact Below.refl _ _ | (refine Below.drew ?_) | (refine Go.below_drewN ?_ _) | (refine Below.alloc ?_ (by first | (simp; done) | omega | (simp; omega)) _) | (refine Below.setCell ?_ (by first | (simp; done) | omega | (simp; omega)) _) | (refine Below.trans ?_ (Below.mono (by assumption) (by first | (simp; done) | omega | (simp; omega)))))); done))
        go_wp2
        go_meet
        exact ⟨rfl, rfl, Lib.hid (keep_block hbw HX.out), Lib.hid (HB.out.trans (hbw.mono hz1))⟩
    case rest =>
      obtain ⟨rfl, rfl, HXb, HBb⟩ := hcut
      have hz2 := HBb.out.size
      clear d0 d1 d2 d3 d4 d5 d6 d7 x0 x1 x2
      obtain ⟨x0, x1, x2⟩ := facts3 HXb.out
      have hb5b := lt_of_block HXb.out
      go_upto_region 5 with fail
      go_cut [8, 9] (fun s8 s9 wx => s8 = .string (dec f) ∧ s9 = .string (dec t) ∧ RowKit.Hid (wx.heap[b5]? = some (.cells #[.int .i64 s, .int .i64 f, .int .i64 t] 37 (0, 0))) ∧ RowKit.Hid (Below w.heap.size w wx))
      case first =>
        go_region_held3 (fun w' => w'.cell? ⟨b5, 1, none⟩ = some (.int .i64 f) ∧ w'.cell? ⟨b5, 2, none⟩ = some (.int .i64 t) ∧ Below wc.heap.size wc w')
          (((refine ⟨?_, ?_, ?_⟩ <;> (first | ((repeat (first | exact Below.refl _ _ | (refine Below.drew ?_) | (refine Go.below_drewN ?_ _) | (refine Below.alloc ?_ (by first | (simp; done) | omega | (simp; omega)) _) | (refine Below.setCell ?_ (by first | (simp; done) | omega | (simp; omega)) _) | (refine Below.trans ?_ (Below.mono (by assumption) (by first | (simp; done) | omega | (simp; omega)))))); done) | (simp [go_sem]; done) | (rw [hb2.cell (by first | (simp; done) | omega | (simp; omega))]; (first | (simp only [*]; done) | (simp [go_sem]; done) | (simp [*, go_sem]; done))) | (rw [hb1.cell (by first | (simp; done) | omega | (simp; omega))]; (first | (simp only [*]; done) | (simp [go_sem]; done) | (simp [*, go_sem]; done))) | (simp [*, go_sem]; done)))))
          (first
            | ((fail_if_success (have := hb1)); go_at_call 25; refine Calls.mono (print_is f _ (by omega) (by omega) ((HT.out.keep HBb.out).keep ?_)) ?_; (focus ((repeat (first | exact Below.refl _ _ | (refine Below.drew ?_) | (refine Go.below_drewN ?_ _) | (refine Below.alloc ?_ (by first | (simp; done) | omega | (simp; omega)) _) | (refine Below.setCell ?_ (by first | (simp; done) | omega | (simp; omega)) _) | (refine Below.trans ?_ (Below.mono (by assumption) (by first | (simp; done) | omega | (simp; omega)))))); done)); rintro e w1 ⟨rfl, hb1⟩; have hz3 : wc.heap.size ≤ w1.heap.size := (by have := hb1.size; (try simp at this); omega))
            | (go_at_call 25; refine Calls.mono (print_is t _ (by omega) (by omega) ((HT.out.keep HBb.out).keep ?_)) ?_; (focus ((repeat (first | exact Below.refl _ _ | (refine Below.drew ?_) | (refine Go.below_drewN ?_ _) | (refine Below.alloc ?_ (by first | (simp; done) | omega | (simp; omega)) _) | (refine Below.setCell ?_ (by first | (simp; done) | omega | (simp; omega)) _) | (refine Below.trans ?_ (Below.mono (by assumption) (by first | (simp; done) | omega | (simp; omega)))))); done)); rintro e w2 ⟨rfl, hb2⟩; have hz4 : wc.heap.size ≤ w2.heap.size := (by have := hb2.size; (try simp at this); omega)))
        all_goals
          have hbw : Below wc.heap.size wc w2 := (by ((repeat (first | exact Below.refl _ _ | (refine Below.drew ?_) | (refine Go.below_drewN ?_ _) | (refine Below.alloc ?_ (by first | (simp; done) | omega | (simp; omega)) _) | (refine Below.setCell ?_ (by first | (simp; done) | omega | (simp; omega)) _) | (refine Below.trans ?_ (Below.mono (by assumption) (by first | (simp; done) | omega | (simp; omega)))))); done))
          go_wp2
          go_meet
          exact ⟨rfl, rfl, Lib.hid (keep_block hbw HXb.out), Lib.hid (HBb.out.trans (hbw.mono hz2))⟩
      case rest =>
        obtain ⟨rfl, rfl, HXc, HBc⟩ := hcut
        have hz3 := HBc.out.size
        clear x0 x1 x2
        obtain ⟨x0, x1, x2⟩ := facts3 HXc.out
        have hb5c := lt_of_block HXc.out
        obtain ⟨d0, d1, d2, d3, d4, d5, d6, d7⟩ := facts8 (keep_block HBc.out HBK.out)
        rcases hc6 with rfl | rfl | rfl | rfl | rfl | rfl
        · skip
          go_wp2
          go_ret3
          rw [(HNL.out.1 (by first | rfl | trivial)).1, (HNL.out.1 (by first | rfl | trivial)).2]
          exact next_out (n := t) (L := [SETSLOT, dec s, ⟨#[73, 77, 80, 79, 82, 84, 73, 78, 71]⟩, dec f, dec (T + dn + 1)]) (c := 5) HBc.out
        · skip
          go_wp2
          go_ret3
          rw [(HNL.out.2.1 (by first | rfl | trivial)).1, (HNL.out.2.1 (by first | rfl | trivial)).2]
          exact next_out (n := f) (L := [SETSLOT, dec s, ⟨#[77, 73, 71, 82, 65, 84, 73, 78, 71]⟩, dec t, dec (T + dn + 1)]) (c := 5) HBc.out
        · skip
          go_wp2_with fail
          go_region_held3 (fun w' => w'.cell? ⟨b5, 1, none⟩ = some (.int .i64 f) ∧ w'.cell? ⟨g, 1, none⟩ = some (.int .i64 B) ∧ Below wc.heap.size wc w')
            (first | ((refine ⟨?_, ?_, ?_⟩ <;> (first | ((repeat (first | exact Below.refl _ _ | (refine Below.drew ?_) | (refine Go.below_drewN ?_ _) | (refine Below.alloc ?_ (by first | (simp; done) | omega | (simp; omega)) _) | (refine Below.setCell ?_ (by first | (simp; done) | omega | (simp; omega)) _) | (refine Below.trans ?_ (Below.mono (by assumption) (by first | (simp; done) | omega | (simp; omega)))))); done) | (simp [go_sem]; done) | (rw [hb1.cell (by first | (simp; done) | omega | (simp; omega))]; (first | (simp only [*]; done) | (simp [go_sem]; done) | (simp [*, go_sem]; done))) | (simp [*, go_sem]; done)))) | exact ⟨cell_alloc y1 _, cell_alloc y2 _, hS1.alloc hS1.size _⟩ | exact ⟨y1, y2, hS1⟩)
            ((go_at_call 25; refine Calls.mono (print_is B _ (by omega) (by omega) ((HT.out.keep HBc.out).keep ?_)) ?_; (focus ((repeat (first | exact Below.refl _ _ | (refine Below.drew ?_) | (refine Go.below_drewN ?_ _) | (refine Below.alloc ?_ (by first | (simp; done) | omega | (simp; omega)) _) | (refine Below.setCell ?_ (by first | (simp; done) | omega | (simp; omega)) _) | (refine Below.trans ?_ (Below.mono (by assumption) (by first | (simp; done) | omega | (simp; omega)))))); done)); rintro e w1 ⟨rfl, hb1⟩; have hz5 : wc.heap.size ≤ w1.heap.size := (by have := hb1.size; (try simp at this); omega); have hS1 : RowKit.Below wc.heap.size wc w1 := (by ((repeat (first | exact Below.refl _ _ | (refine Below.drew ?_) | (refine Go.below_drewN ?_ _) | (refine Below.alloc ?_ (by first | (simp; done) | omega | (simp; omega)) _) | (refine Below.setCell ?_ (by first | (simp; done) | omega | (simp; omega)) _) | (refine Below.trans ?_ (Below.mono (by assumption) (by first | (simp; done) | omega | (simp; omega)))))); done)); have y1 := cell_below hS1 x1; have y2 := cell_below hS1 d1))
          all_goals
            go_wp2
            go_ret3
            rw [(HNL.out.2.2.1 (by first | rfl | trivial)).1, (HNL.out.2.2.1 (by first | rfl | trivial)).2]
            exact next_out (c := 3) (HBc.out.trans (hS1.mono hz3))
        · have hq := hcq rfl
          obtain ⟨x, l, rfl⟩ : ∃ x l, queue = x :: l := by cases queue with | nil => exact absurd rfl hq | cons x l => exact ⟨x, l, rfl⟩
          obtain ⟨qb, qo, rfl⟩ := HQ.out.addr (by simp)
          have q0 := cell_below HBc.out (HQ.out.cell (show 0 < (x :: l).length by simp))
          simp only [Nat.add_zero, List.getElem_cons_zero] at q0
          clear hq hcq
          go_wp2_with fail
          go_region
          go_wp2
          go_ret3
          rw [(HNL.out.2.2.2.1 (by first | rfl | trivial)).1, (HNL.out.2.2.2.1 (by first | rfl | trivial)).2]
          first | exact next_out (L := [⟨#[77, 73, 71, 82, 65, 84, 69]⟩, dec s, x, dec t]) (c := 4) HBc.out | exact next_out (wx := wc.drewN _) (L := [⟨#[77, 73, 71, 82, 65, 84, 69]⟩, dec s, x, dec t]) (c := 4) (Go.below_drewN HBc.out _)
        · skip
          go_wp2
          go_ret3
          rw [(HNL.out.2.2.2.2.1 (by first | rfl | trivial)).1, (HNL.out.2.2.2.2.1 (by first | rfl | trivial)).2]
          exact next_out (n := f) (L := [SETSLOT, dec s, ⟨#[78, 79, 68, 69]⟩, dec t]) (c := 4) HBc.out
        · skip
          go_wp2_with fail
          go_region_held3 (fun w' => w'.cell? ⟨b5, 2, none⟩ = some (.int .i64 t) ∧ w'.cell? ⟨g, 6, none⟩ = some (.int .i64 ep) ∧ Below wc.heap.size wc w')
            (first | ((refine ⟨?_, ?_, ?_⟩ <;> (first | ((repeat (first | exact Below.refl _ _ | (refine Below.drew ?_) | (refine Go.below_drewN ?_ _) | (refine Below.alloc ?_ (by first | (simp; done) | omega | (simp; omega)) _) | (refine Below.setCell ?_ (by first | (simp; done) | omega | (simp; omega)) _) | (refine Below.trans ?_ (Below.mono (by assumption) (by first | (simp; done) | omega | (simp; omega)))))); done) | (simp [go_sem]; done) | (rw [hb1.cell (by first | (simp; done) | omega | (simp; omega))]; (first | (simp only [*]; done) | (simp [go_sem]; done) | (simp [*, go_sem]; done))) | (simp [*, go_sem]; done)))) | exact ⟨cell_alloc y1 _, cell_alloc y2 _, hS1.alloc hS1.size _⟩ | exact ⟨y1, y2, hS1⟩)
            ((go_at_call 25; refine Calls.mono (print_is ep _ (by omega) (by omega) ((HT.out.keep HBc.out).keep ?_)) ?_; (focus ((repeat (first | exact Below.refl _ _ | (refine Below.drew ?_) | (refine Go.below_drewN ?_ _) | (refine Below.alloc ?_ (by first | (simp; done) | omega | (simp; omega)) _) | (refine Below.setCell ?_ (by first | (simp; done) | omega | (simp; omega)) _) | (refine Below.trans ?_ (Below.mono (by assumption) (by first | (simp; done) | omega | (simp; omega)))))); done)); rintro e w1 ⟨rfl, hb1⟩; have hz5 : wc.heap.size ≤ w1.heap.size := (by have := hb1.size; (try simp at this); omega); have hS1 : RowKit.Below wc.heap.size wc w1 := (by ((repeat (first | exact Below.refl _ _ | (refine Below.drew ?_) | (refine Go.below_drewN ?_ _) | (refine Below.alloc ?_ (by first | (simp; done) | omega | (simp; omega)) _) | (refine Below.setCell ?_ (by first | (simp; done) | omega | (simp; omega)) _) | (refine Below.trans ?_ (Below.mono (by assumption) (by first | (simp; done) | omega | (simp; omega)))))); done)); have y1 := cell_below hS1 x2; have y2 := cell_below hS1 d6))
          all_goals
            go_wp2
            go_ret3
            rw [(HNL.out.2.2.2.2.2 (by first | rfl | trivial)).1, (HNL.out.2.2.2.2.2 (by first | rfl | trivial)).2]
            exact next_out (c := 4) (HBc.out.trans (hS1.mono hz3))
end Go.Proofs.YtdfijefgklhmdaaDoor.T
