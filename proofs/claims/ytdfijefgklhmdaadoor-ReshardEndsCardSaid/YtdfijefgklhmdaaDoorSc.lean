import Derived.Deep.DeepCutAuto
import Derived.Laws.OwnMore
import Derived.OwnWalk
import Derived.Lib.AppendStr
import Derived.Lib.SliceRun
import Derived.Lib.SmallJoins
import Derived.IntWalk
import Derived.Lib.ItoaLen
import Derived.Deep.AppendLies
import Derived.Test.YtdfijefgklhmdaaDoorProg
import Derived.Test.YtdfijefgklhmdaaDoorShelf
import Derived.Test.YtdfijefgklhmdaaDoorMem
import Derived.Deep.RegionLaw
import Derived.Test.YtdfijefgklhmdaaDoorSb
import Derived.WalkKit
import Derived.Outline
import Derived.WalkLawsBesides
import Derived.Deep.QuietTactic
import Derived.BigQuiet
import Derived.Lib.Hide
import Derived.Handy
import Derived.Deep.RegionHeld3
import Derived.Deep.DrawnRows
import Derived.KernelRfl
import Derived.Great.Walk
import Derived.Test.YtdfijefgklhmdaaDoorOwn
namespace Go.Proofs.YtdfijefgklhmdaaDoor.T
open Go Go.RowKit Go.Sort Mem Own
set_option maxRecDepth 100000
set_option maxHeartbeats 1000000
set_option linter.unusedVariables false
set_option linter.unusedSimpArgs false

theorem alloc3 (w : World) (c2 c3 c4 : Array Value) (t2 t3 t4 : TypeId) : (((w.alloc (.cells c2 t2)).alloc (.cells c3 t3)).alloc (.cells c4 t4)).heap[w.heap.size]? = some (.cells c2 t2 (0, 0)) ∧ (((w.alloc (.cells c2 t2)).alloc (.cells c3 t3)).alloc (.cells c4 t4)).heap[w.heap.size + 1]? = some (.cells c3 t3 (0, 0)) ∧ (((w.alloc (.cells c2 t2)).alloc (.cells c3 t3)).alloc (.cells c4 t4)).heap[w.heap.size + 2]? = some (.cells c4 t4 (0, 0)) ∧ Below w.heap.size w (((w.alloc (.cells c2 t2)).alloc (.cells c3 t3)).alloc (.cells c4 t4)) ∧ (((w.alloc (.cells c2 t2)).alloc (.cells c3 t3)).alloc (.cells c4 t4)).heap.size = w.heap.size + 3 := by
  have s1 : (w.alloc (.cells c2 t2)).heap.size = w.heap.size + 1 := alloc_size _ _
  have s2 : ((w.alloc (.cells c2 t2)).alloc (.cells c3 t3)).heap.size = w.heap.size + 2 := by rw [alloc_size, s1]
  have h1 := heap_alloc_new w (.cells c2 t2)
  have h2 := heap_alloc_new (w.alloc (.cells c2 t2)) (.cells c3 t3)
  have h3 := heap_alloc_new ((w.alloc (.cells c2 t2)).alloc (.cells c3 t3)) (.cells c4 t4)
  rw [s1] at h2; rw [s2] at h3
  have b2 : Below (w.alloc (.cells c2 t2)).heap.size (w.alloc (.cells c2 t2)) ((w.alloc (.cells c2 t2)).alloc (.cells c3 t3)) := (Below.refl _ _).alloc (Nat.le_refl _) _
  have b3 : Below ((w.alloc (.cells c2 t2)).alloc (.cells c3 t3)).heap.size ((w.alloc (.cells c2 t2)).alloc (.cells c3 t3)) (((w.alloc (.cells c2 t2)).alloc (.cells c3 t3)).alloc (.cells c4 t4)) := (Below.refl _ _).alloc (Nat.le_refl _) _
  exact ⟨keep_block b3 (keep_block b2 h1), keep_block b3 h2, h3, (((Below.refl _ _).alloc (Nat.le_refl _) _).alloc (by rw [s1]; omega) _).alloc (by rw [s2]; omega) _, by rw [alloc_size, s2]⟩
theorem own_push {w5 : World} {B n b : Nat} {v : Value} {xs : List Value} (h : w5.ownsRow B 9 1 v n xs) (hb : b < B) (u : Value) {i : Nat} : (w5.setCell ⟨b, i, none⟩ u).ownsRow B 9 1 v n xs :=
  h.kept (only_set w5 b i u) (by
    cases hv : v.ownBlock with
    | none => exact .inl rfl
    | some k => right; intro e; injection e with e; have := (h.lt k hv).1; omega)
theorem grown_blk {w wa w5 : World} {B n b : Nat} {v : Value} {xs : List Value} {o : Obj} (h : w.ownsRow B 9 1 v n xs) (hg : wa.grownBy w5 v.ownBlock) (hb : wa.heap[b]? = some o) (hlt : b < B) : w5.heap[b]? = some o := by
  rw [hg.block b (lt_of_block hb) (fun e => by have := (h.lt b e.symm).1; omega)]; exact hb
theorem Rd.set {w : World} {A : Option Addr} {l : List ByteArray} (h : Rd w A l) {b i : Nat} {u : Value} (hA : ∀ b' off, A = some ⟨b', off, none⟩ → b' ≠ b) : Rd (w.setCell ⟨b, i, none⟩ u) A l := rd_set h hA
theorem drew_size (w : World) : w.drew.heap.size = w.heap.size := rfl
theorem set_size (w : World) (a : Addr) (v : Value) : (w.setCell a v).heap.size = w.heap.size := by simp [World.setCell]
theorem rd_s7 {w : World} {b : Nat} {A : Option Addr} {l : List ByteArray} (h : Rd w A l) (hA : ∀ b' off, A = some ⟨b', off, none⟩ → b' ≠ b) (u0 u1 u2 u3 u4 u5 u6 : Value) :
    Rd (((((((w.setCell ⟨b, 0, none⟩ u0).setCell ⟨b, 1, none⟩ u1).setCell ⟨b, 2, none⟩ u2).setCell ⟨b, 3, none⟩ u3).setCell ⟨b, 4, none⟩ u4).setCell ⟨b, 5, none⟩ u5).setCell ⟨b, 6, none⟩ u6) A l :=
  rd_set (rd_set (rd_set (rd_set (rd_set (rd_set (rd_set h hA) hA) hA) hA) hA) hA) hA
theorem rdm_s7 {w : World} {b : Nat} {A : Option Addr} {l : List Mv} (h : RdM w A l) (hA : ∀ b' off, A = some ⟨b', off, none⟩ → l ≠ [] → b' ≠ b) (u0 u1 u2 u3 u4 u5 u6 : Value) :
    RdM (((((((w.setCell ⟨b, 0, none⟩ u0).setCell ⟨b, 1, none⟩ u1).setCell ⟨b, 2, none⟩ u2).setCell ⟨b, 3, none⟩ u3).setCell ⟨b, 4, none⟩ u4).setCell ⟨b, 5, none⟩ u5).setCell ⟨b, 6, none⟩ u6) A l :=
  (((((((h.set hA).set hA).set hA).set hA).set hA).set hA).set hA)
/-- Rows that are old stay. -/
theorem rd_old {w : World} {A : Option Addr} {l : List ByteArray} (h : Rd w A l) : l = [] ∨ ∀ b off, A = some ⟨b, off, none⟩ → b < w.heap.size := by
  rcases h with h | ⟨b, off, rfl, h⟩
  · exact .inl h
  · cases l with
    | nil => exact .inl rfl
    | cons x l =>
      right
      intro b' off' e
      cases e
      exact lt_of_cell (h 0 x rfl)

theorem rd_s7o {w : World} {b n : Nat} {A : Option Addr} {l : List ByteArray} (h : Rd w A l) (ho : l = [] ∨ ∀ b' off, A = some ⟨b', off, none⟩ → b' < n) (hb : n ≤ b) (u0 u1 u2 u3 u4 u5 u6 : Value) :
    Rd (((((((w.setCell ⟨b, 0, none⟩ u0).setCell ⟨b, 1, none⟩ u1).setCell ⟨b, 2, none⟩ u2).setCell ⟨b, 3, none⟩ u3).setCell ⟨b, 4, none⟩ u4).setCell ⟨b, 5, none⟩ u5).setCell ⟨b, 6, none⟩ u6) A l := by
  rcases ho with rfl | ho
  · exact .inl rfl
  · exact rd_s7 h (fun b' off e => by have := ho b' off e; omega) _ _ _ _ _ _ _
/-- What ref20.keys leaves. -/
def KeysOut (R : Rv) (r : Rp) (A : Option Addr) (c : Nat) (w : World) (e : Ending) (w' : World) : Prop :=
  ∃ (R' : Rv) (Q' : Option Addr) (qc' : Nat), e = .returned (rvV R' A c Q' qc') ∧ R'.plan = R.plan ∧ Rd w' Q' R'.queue ∧ R'.queue.length ≤ qc' ∧
    (((told r).2 = false ∧ R'.failed = true) ∨ ((told r).2 = true ∧ R' = ⟨R.plan, R.B, R.T, if (told r).1 = [] then 5 else 4, (told r).1, R.ep, R.failed⟩)) ∧ Below w.heap.size w w'
theorem keys_bad {P : List Mv} {B T call ep : Int} {queue : List ByteArray} {failed : Bool} {r : Rp} {A : Option Addr} {c : Nat} {w w' : World} {M n : Nat} {T' call' ep' : Int} {Q' : Option Addr} {qc' : Nat} {l : List ByteArray} (ht : (told r).2 = false) (hM : M = P.length) (hn : n = l.length) (hr : Rd w' Q' l) (hc : l.length ≤ qc') (hb : Below w.heap.size w w') :
    KeysOut ⟨P, B, T, call, queue, ep, failed⟩ r A c w (.returned (.agg #[.slice A M c, .int .i64 B, .int .i64 T', .int .i64 call', .slice Q' n qc', .int .i64 ep', .bool true])) w' := by
  subst hM hn
  exact ⟨⟨P, B, T', call', l, ep', true⟩, Q', qc', rfl, rfl, hr, hc, .inl ⟨ht, rfl⟩, hb⟩
theorem keys_good {P : List Mv} {B T call ep : Int} {queue : List ByteArray} {failed : Bool} {r : Rp} {A : Option Addr} {c : Nat} {w w' : World} {M n : Nat} {cl : Int} {Q' : Option Addr} {qc' : Nat} {l : List ByteArray} (ht : told r = (l, true)) (hM : M = P.length) (hn : n = l.length) (hcl : (l = [] → cl = 5) ∧ (l ≠ [] → cl = 4)) (hr : Rd w' Q' l) (hc : l.length ≤ qc') (hb : Below w.heap.size w w') :
    KeysOut ⟨P, B, T, call, queue, ep, failed⟩ r A c w (.returned (.agg #[.slice A M c, .int .i64 B, .int .i64 T, .int .i64 cl, .slice Q' n qc', .int .i64 ep, .bool failed])) w' := by
  subst hM hn
  refine ⟨⟨P, B, T, _, l, ep, failed⟩, Q', qc', rfl, rfl, hr, hc, .inr ⟨by rw [ht], ?_⟩, hb⟩
  rw [ht]
  by_cases hl : l = []
  · rw [hcl.1 hl]; simp [hl]
  · rw [hcl.2 hl]; simp [hl]
set_option maxHeartbeats 2000000 in
/-- ref20.keys -/
theorem rkeys_is (R : Rv) (A : Option Addr) (c : Nat) (Q : Option Addr) (qc : Nat) (r : Rp) (Ar : Option Addr) (cr : Nat) (w : World) (hr : RdK w Ar r.ks) (hn : r.ks.length ≤ 8796093022000) (hq : Rd w Q R.queue) (hqc : R.queue.length ≤ qc) : Calls Tryd.prog 28 #[rvV R A c Q qc, rpV r Ar cr] w (KeysOut R r A c w) := by
  obtain ⟨i0, hi, hz0, hz1, hz2⟩ := info_parts info9
  have HR := Lib.hid hr
  have HQ := Lib.hid hq
  have HQC := Lib.hid hqc
  have HBad := Lib.hid (fun (i : Nat) (hi : i < r.ks.length) (h : ¬ r.ks[i].1 = 4) => (show (told r).2 = false by rw [told_bad hi h]))
  have HGood := Lib.hid (fun h (h6 : r.k = 6) => (show told r = (r.ks.map (fun x => x.2), true) by rw [told_good h, h6]; rfl))
  have HK6 := Lib.hid (fun (h6 : ¬ r.k = 6) => (show (told r).2 = false by
    by_cases h : ∀ x ∈ r.ks, x.1 = 4
    · rw [told_good h]; simpa using h6
    · obtain ⟨x, hx, h⟩ : ∃ x, x ∈ r.ks ∧ ¬ x.1 = 4 := Classical.byContradiction (fun hh => h (fun x hx => Classical.byContradiction (fun h4 => hh ⟨x, hx, h4⟩)))
      obtain ⟨i, hi, rfl⟩ := List.getElem_of_mem hx
      rw [told_bad hi h]))
  have HK := Lib.hid (rfl : KeysOut R r A c w = KeysOut R r A c w)
  have HBAD := Lib.hid (fun (w' : World) (M n : Nat) (T' call' ep' : Int) (Q' : Option Addr) (qc' : Nat) (l : List ByteArray) => keys_bad (P := R.plan) (B := R.B) (T := R.T) (call := R.call) (ep := R.ep) (queue := R.queue) (failed := R.failed) (r := r) (A := A) (c := c) (w := w) (w' := w') (M := M) (n := n) (T' := T') (call' := call') (ep' := ep') (Q' := Q') (qc' := qc') (l := l))
  have HGOOD := Lib.hid (fun (w' : World) (M n : Nat) (cl : Int) (Q' : Option Addr) (qc' : Nat) (l : List ByteArray) => keys_good (P := R.plan) (B := R.B) (T := R.T) (call := R.call) (ep := R.ep) (queue := R.queue) (failed := R.failed) (r := r) (A := A) (c := c) (w := w) (w' := w') (M := M) (n := n) (cl := cl) (Q' := Q') (qc' := qc') (l := l))
  clear HK hr hq hqc
  generalize hKO : KeysOut R r A c w = KO at HBAD HGOOD ⊢
  obtain ⟨P, B, T, call, queue, ep, failed⟩ := R
  obtain ⟨k, z, t, ks⟩ := r
  dsimp only at HR HQ HQC HBad HGood HK6 HBAD HGOOD hn ⊢
  have HQO := Lib.hid (rd_old HQ.out)
  clear hKO
  obtain ⟨N, hN⟩ : ∃ N, N = ks.length := ⟨_, rfl⟩
  obtain ⟨M, hM⟩ : ∃ M, M = P.length := ⟨_, rfl⟩
  obtain ⟨qn, hqn⟩ : ∃ qn, qn = queue.length := ⟨_, rfl⟩
  have HN := Lib.hid hN
  have HM := Lib.hid hM
  have HQN := Lib.hid hqn
  rw [← hN] at hn
  have hg1 : rpV ⟨k, z, t, ks⟩ Ar cr = Value.agg #[.int .i64 k, .int .i64 z, .string t, .slice Ar N cr] := by rw [hN]
  have hg2 : rvV ⟨P, B, T, call, queue, ep, failed⟩ A c Q qc = Value.agg #[.slice A M c, .int .i64 B, .int .i64 T, .int .i64 call, .slice Q qn qc, .int .i64 ep, .bool failed] := by rw [hM, hqn]
  rw [hg1, hg2]
  clear hg1 hg2 hN hM hqn
  obtain ⟨a2, a3, a4, aB, aS⟩ := alloc3 w #[.slice A M c, .int .i64 B, .int .i64 T, .int .i64 call, .slice Q qn qc, .int .i64 ep, .bool failed] #[.int .i64 k, .int .i64 z, .string t, .slice Ar N cr] #[.slice none 0 0, .int .i64 0, .int .i64 0, .int .i64 0, .slice none 0 0, .int .i64 0, .bool false] 32 41 32
  have A2 := Lib.hid a2
  have A3 := Lib.hid a3
  have A4 := Lib.hid a4
  have AB := Lib.hid aB
  have AS := Lib.hid aS
  clear a2 a3 a4 aB aS
  go_enter Tryd.func28, Tryd.ntmps28
  go_upto_region 0 with fail
  go_cut [2, 3, 4] (fun s2 s3 s4 wx => s2 = .pointer (some ⟨w.heap.size, 0, none⟩) ∧ s3 = .pointer (some ⟨w.heap.size + 1, 0, none⟩) ∧ s4 = .pointer (some ⟨w.heap.size + 2, 0, none⟩) ∧ RowKit.Hid (wx.heap[w.heap.size]? = some (.cells #[.slice A M c, .int .i64 B, .int .i64 T, .int .i64 call, .slice Q qn qc, .int .i64 ep, .bool failed] 32 (0, 0))) ∧ RowKit.Hid (wx.heap[w.heap.size + 1]? = some (.cells #[.int .i64 k, .int .i64 z, .string t, .slice Ar N cr] 41 (0, 0))) ∧ RowKit.Hid (wx.heap[w.heap.size + 2]? = some (.cells #[.slice none 0 0, .int .i64 0, .int .i64 0, .int .i64 0, .slice none 0 0, .int .i64 0, .bool false] 32 (0, 0))) ∧ RowKit.Hid (Below w.heap.size w wx) ∧ RowKit.Hid (wx.heap.size = w.heap.size + 3))
  case first =>
    go_wp2
    go_meet
    exact ⟨rfl, rfl, rfl, A2, A3, A4, AB, AS⟩
  case rest =>
    obtain ⟨rfl, rfl, rfl, HX2, HX3, HX4, HB, HS⟩ := hcut
    clear A2 A3 A4 AB AS
    obtain ⟨x0, x1, x2, x3, x4, x5, x6⟩ := facts7 HX2.out
    obtain ⟨y0, y1, y2, y3⟩ := facts4 HX3.out
    obtain ⟨z0, z1, z2, z3, z4, z5, z6⟩ := facts7 HX4.out
    obtain ⟨e0, e1, e2, e3, e4, e5, e6⟩ := free7 HX2.out
    obtain ⟨f0, f1, f2, f3, f4, f5, f6⟩ := free7 HX4.out
    have hsz := HS.out
    have hs2 : w.heap.size < wc.heap.size := by omega
    have hs3 : w.heap.size + 1 < wc.heap.size := by omega
    have hs4 : w.heap.size + 2 < wc.heap.size := by omega
    clear hsz
    by_cases h6 : k = 6
    · subst h6
      go_wp2_with fail
      go_loopw [5] (fun s5 wr => ∃ (v0 : Value) (i : Nat) (o : List ByteArray), i ≤ N ∧ s5 = .int .i64 i ∧ RowKit.Hid (o = (ks.take i).map (fun x => x.2)) ∧ RowKit.Hid (∀ x ∈ ks.take i, x.1 = 4) ∧ RowKit.Hid (wr.heap[w.heap.size]? = some (.cells #[.slice A M c, .int .i64 B, .int .i64 T, .int .i64 call, v0, .int .i64 ep, .bool failed] 32 (0, 0))) ∧ RowKit.Hid (wr.heap[w.heap.size + 1]? = some (.cells #[.int .i64 6, .int .i64 z, .string t, .slice Ar N cr] 41 (0, 0))) ∧ RowKit.Hid (wr.heap[w.heap.size + 2]? = some (.cells #[.slice none 0 0, .int .i64 0, .int .i64 0, .int .i64 0, .slice none 0 0, .int .i64 0, .bool false] 32 (0, 0))) ∧ RowKit.Hid (wr.ownsRow wc.heap.size 9 1 v0 i (vs o)) ∧ RowKit.Hid (Below w.heap.size w wr) ∧ RowKit.Hid (wc.heap.size ≤ wr.heap.size)) (fun s5 _ => N - (intOf s5).toNat)
      case atStart =>
        refine ⟨.slice none 0 0, 0, [], Nat.zero_le _, rfl, Lib.hid (by simp), Lib.hid (by simp), Lib.hid ?_, Lib.hid (blk_other (by omega) HX3.out), Lib.hid (blk_other (by omega) HX4.out), Lib.hid (own_push (World.ownsRow_nil _ _ _ _) (by have := HS.out; omega) _), Lib.hid (HB.out.setCell (Nat.le_refl _) _), Lib.hid (by rw [set_size]; exact Nat.le_refl _)⟩
        have := heap_set (i := 4) HX2.out (.slice none 0 0); simpa using this
      case round =>
        obtain ⟨v0, i, o, hiN, rfl, HO, HA4, HY2, HY3, HY4, HO0, HBr, HZr⟩ := hrel
        obtain ⟨p0, p1, p2, p3, p4, p5, p6⟩ := facts7 HY2.out
        obtain ⟨q0, q1, q2, q3⟩ := facts4 HY3.out
        obtain ⟨r0, r1, r2, r3, r4, r5, r6⟩ := facts7 HY4.out
        obtain ⟨l0, l1, l2, l3, l4, l5, l6⟩ := free7 HY2.out
        obtain ⟨m0, m1, m2, m3, m4, m5, m6⟩ := free7 HY4.out
        have hk2 := lt_of_block HY2.out
        have hk3 := lt_of_block HY3.out
        have hk4 := lt_of_block HY4.out
        have hzr := HBr.out.size
        have hS := HS.out
        have hZr := HZr.out
        clear x0 x1 x2 x3 x4 x5 x6 y0 y1 y2 y3 z0 z1 z2 z3 z4 z5 z6 e0 e1 e2 e3 e4 e5 e6 f0 f1 f2 f3 f4 f5 f6
        by_cases hlt : i < N
        · have hlt2 := Lib.hid (show i < ks.length by rw [← HN.out]; exact hlt)
          obtain ⟨b, off, rfl⟩ := HR.out.addr (Nat.zero_lt_of_lt hlt2.out)
          obtain ⟨g0, ⟨w1, g1⟩, g2, A3, n3, c3, g3⟩ := (HR.out.below HBr.out).cell hlt2.out
          have HBi := Lib.hid (HBad.out i hlt2.out)
          have HTk := Lib.hid (show ks.take (i + 1) = ks.take i ++ [ks[i]'hlt2.out] from List.take_succ_eq_append_getElem hlt2.out)
          obtain ⟨q, hq⟩ : ∃ q, q = ks[i]'hlt2.out := ⟨_, rfl⟩
          rw [← hq] at g0 g2 HBi HTk
          obtain ⟨qk, qt⟩ := q
          dsimp only at g0 g2 HBi HTk
          clear hq
          by_cases h4 : qk = 4
          · subst h4
            have hO2 := Lib.hid (show o ++ [qt] = (ks.take (i + 1)).map (fun x => x.2) by rw [HTk.out, List.map_append, ← HO.out]; rfl)
            have hA2 := Lib.hid (show ∀ x ∈ ks.take (i + 1), x.1 = 4 by
              intro x hx
              rw [HTk.out] at hx
              rcases List.mem_append.1 hx with h | h
              · exact HA4.out x h
              · rw [List.mem_singleton.1 h])
            go_wp2_with fail
            go_region_law
              (first
                | (refine step_append_lies _ (by rfl) _ _ _ (by rfl) wc.heap.size 9 i0 _ 1 16 Tryd.underlying30 hi hz0 hz1 hz2 rfl (by omega) v0 i (vs o) (by rfl) (by exact (HO0.out.alloc _)) ⟨wr.heap.size, 0, none⟩ 1 1 [.string qt] (by rfl) (by rfl) (World.news_of_block (cs := #[.string qt]) (t := 9) (fr := (0, 0)) (heap_alloc_new wr _)) (by simp [Value.oneCell']) (by omega) (by unfold maxLen; omega) (by omega) (by simp; omega) (wr.heap.size + 1) (by simp) ?_; intro gg cap w5 hown1 hgrow hat hlt'; have K2 := Lib.hid (grown_blk HO0.out hgrow (keep_block (Below.drew ((Below.refl _ _).alloc (Nat.le_refl _) _)) HY2.out) (by omega)); have K3 := Lib.hid (grown_blk HO0.out hgrow (keep_block (Below.drew ((Below.refl _ _).alloc (Nat.le_refl _) _)) HY3.out) (by omega)); have K4 := Lib.hid (grown_blk HO0.out hgrow (keep_block (Below.drew ((Below.refl _ _).alloc (Nat.le_refl _) _)) HY4.out) (by omega)); obtain ⟨d0, d1, d2, d3, d4, d5, d6⟩ := facts7 K2.out; obtain ⟨c0, c1, c2, c3', c4, c5, c6⟩ := free7 K2.out; have HGW := Lib.hid hgrow; have HO5 := Lib.hid hown1; clear hgrow hown1 hat))
            all_goals
              go_wp2_with fail
              have hz5 := HGW.out.size
              rw [drew_size, alloc_size] at hz5
              have hOe := own_push (i := 4) (push_row HO5.out) (show w.heap.size < wc.heap.size by omega) (.slice (some ⟨gg, 0, none⟩) (i + 1) cap)
              have hb5 : Below w.heap.size w w5 := ((HBr.out.alloc hzr _).drew).grown HGW.out (by rw [drew_size, alloc_size]; omega) (fun k hk => by have := own_lt HO0.out k hk; omega)
              refine ⟨⟨_, i + 1, o ++ [qt], by omega, by go_num, hO2, hA2, Lib.hid ?_, Lib.hid (blk_other (by omega) K3.out), Lib.hid (blk_other (by omega) K4.out), Lib.hid hOe, Lib.hid (hb5.setCell (Nat.le_refl _) _), Lib.hid (by rw [set_size]; omega)⟩, by simp [intOf]; omega⟩
              have := heap_set (i := 4) K2.out (.slice (some ⟨gg, 0, none⟩) (i + 1) cap); simpa using this
          · have h4b : (qk == 4) = false := by simp [h4]
            have HE := Lib.hid (HBi.out h4)
            obtain ⟨Qa, qa, rfl⟩ := own_slice HO0.out
            obtain rfl := own_len HO0.out
            have HRO := Lib.hid (own_rd HO0.out)
            go_wp2_with (go_at_call 27; refine Calls.mono (fails_is _ _ _ _ _ _ _ _ _ _ _ _) ?_; rintro e w9 ⟨rfl, hb9⟩; have HW4 := Lib.hid (keep_block hb9 HY4.out); have HB9 := Lib.hid (HBr.out.trans (hb9.mono (by omega))); have HRQ := Lib.hid (HRO.out.1.below hb9); obtain ⟨z0, z1, z2, z3, z4, z5, z6⟩ := facts7 HW4.out; obtain ⟨f0, f1, f2, f3, f4, f5, f6⟩ := free7 HW4.out; have hk9 := lt_of_block HW4.out)
            refine end7c Tryd.results28 rfl (set7 _ _ _ _ _ _ _ HW4.out) ?_
            refine HBAD.out _ _ _ _ _ _ _ _ o HE.out HM.out rfl (rd_s7 HRQ.out (fun b' off e => ?_) _ _ _ _ _ _ _) HRO.out.2.2.1 (below_s7 HB9.out (by omega))
            have := own_lt HO0.out b' (by rw [e]; rfl)
            omega
        · have hi : i = N := by omega
          subst hi
          have HE := Lib.hid (HGood.out (fun x hx => HA4.out x (by rw [List.take_of_length_le (by rw [← HN.out]; omega)]; exact hx)) trivial)
          have ho2 : o = ks.map (fun x => x.2) := by rw [HO.out, List.take_of_length_le (by rw [← HN.out]; omega)]
          subst ho2
          obtain ⟨Qa, qa, rfl⟩ := own_slice HO0.out
          have HL := Lib.hid (own_len HO0.out)
          have HRO := Lib.hid (own_rd (l := ks.map (fun x => x.2)) (n := i) (by rw [HL.out]; exact HO0.out))
          by_cases h0 : 0 < i
          · go_wp2
            refine end7c Tryd.results28 rfl (set7 _ _ _ _ _ _ _ (by repeat (first | exact HY4.out | refine blk_other (by omega) ?_))) ?_
            refine HGOOD.out _ _ _ _ _ _ _ HE.out HM.out HL.out.symm ⟨fun e => ?_, fun _ => rfl⟩ (rd_s7 ?_ (fun b' off e => ?_) _ _ _ _ _ _ _) HRO.out.2.2.1 (below_s7 ?_ (by omega))
            · have := HL.out; rw [e] at this; simp at this; omega
            · repeat (refine rd_set ?_ (fun b' off e => by have := own_lt HO0.out b' (by rw [e]; rfl); omega))
              exact HRO.out.1
            · have := own_lt HO0.out b' (by rw [e]; rfl); omega
            · first | exact (HBr.out.setCell (Nat.le_refl _) _).setCell (Nat.le_refl _) _ | exact HBr.out.setCell (Nat.le_refl _) _
          · obtain rfl : i = 0 := by omega
            go_wp2
            refine end7c Tryd.results28 rfl (set7 _ _ _ _ _ _ _ (by repeat (first | exact HY4.out | refine blk_other (by omega) ?_))) ?_
            refine HGOOD.out _ _ _ _ _ _ _ HE.out HM.out HL.out.symm ⟨fun e => rfl, fun e => ?_⟩ (rd_s7 ?_ (fun b' off e => ?_) _ _ _ _ _ _ _) HRO.out.2.2.1 (below_s7 ?_ (by omega))
            · exact absurd (List.eq_nil_of_length_eq_zero HL.out) e
            · repeat (refine rd_set ?_ (fun b' off e => by have := own_lt HO0.out b' (by rw [e]; rfl); omega))
              exact HRO.out.1
            · have := own_lt HO0.out b' (by rw [e]; rfl); omega
            · first | exact (HBr.out.setCell (Nat.le_refl _) _).setCell (Nat.le_refl _) _ | exact HBr.out.setCell (Nat.le_refl _) _
    · have h6b : (k == 6) = false := by simp [h6]
      have HE := Lib.hid (HK6.out h6)
      go_wp2_with (go_at_call 27; refine Calls.mono (fails_is _ _ _ _ _ _ _ _ _ _ _ _) ?_; rintro e w9 ⟨rfl, hb9⟩; have HW4 := Lib.hid (keep_block hb9 HX4.out); have HB9 := Lib.hid (HB.out.trans (hb9.mono (by omega))); have HRQ := Lib.hid (HQ.out.below HB9.out); obtain ⟨z0, z1, z2, z3, z4, z5, z6⟩ := facts7 HW4.out; obtain ⟨f0, f1, f2, f3, f4, f5, f6⟩ := free7 HW4.out; have hk9 := lt_of_block HW4.out)
      refine end7c Tryd.results28 rfl (set7 _ _ _ _ _ _ _ HW4.out) ?_
      exact HBAD.out _ _ _ _ _ _ _ _ _ HE.out HM.out HQN.out (rd_s7o HRQ.out HQO.out (by omega) _ _ _ _ _ _ _) HQC.out (below_s7 HB9.out (by omega))
end Go.Proofs.YtdfijefgklhmdaaDoor.T
