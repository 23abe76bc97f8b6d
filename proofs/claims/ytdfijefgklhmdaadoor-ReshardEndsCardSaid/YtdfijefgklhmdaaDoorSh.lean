import Derived.Deep.DeepCutAuto
import Derived.Laws.OwnMore
import Derived.OwnWalk
import Derived.Lib.AppendStr
import Derived.Lib.SliceRun
import Derived.Lib.SmallJoins
import Derived.IntWalk
import Derived.Lib.ItoaLen
import Derived.Deep.AppendLies
import Derived.Test.YtdfijefgklhmdaaDoorProg
import Derived.Test.YtdfijefgklhmdaaDoorShelf
import Derived.Test.YtdfijefgklhmdaaDoorMem
import Derived.Deep.RegionLaw
import Derived.Test.YtdfijefgklhmdaaDoorSd
import Derived.WalkKit
import Derived.Outline
import Derived.WalkLawsBesides
import Derived.Deep.QuietTactic
import Derived.BigQuiet
import Derived.Lib.Hide
import Derived.Handy
import Derived.Deep.RegionHeld3
import Derived.Deep.DrawnRows
import Derived.KernelRfl
import Derived.Great.Walk
import Derived.Test.YtdfijefgklhmdaaDoorOwn
namespace Go.Proofs.YtdfijefgklhmdaaDoor.T
open Go Go.RowKit Go.Sort Mem Own
set_option maxRecDepth 100000
set_option maxHeartbeats 1000000
set_option linter.unusedVariables false
set_option linter.unusedSimpArgs false

/-- What an answer to the third call leaves. -/
def AOut3 (wait : Bool) (vW : Value) (K : Ending → World → Prop) (w : World) (e : Ending) (w' : World) : Prop :=
  (wait = true ∧ e = .returned vW ∧ Below w.heap.size w w') ∨ (wait = false ∧ K e w')
theorem aout3_w {wait : Bool} {vW : Value} {K : Ending → World → Prop} {w w' : World} (h : wait = true) (hb : Below w.heap.size w w') : AOut3 wait vW K w (.returned vW) w' := .inl ⟨h, rfl, hb⟩
theorem aout3_k {wait : Bool} {vW : Value} {K : Ending → World → Prop} {w w' : World} {e : Ending} (h : wait = false) (hb : K e w') : AOut3 wait vW K w e w' := .inr ⟨h, hb⟩
theorem ko_s7 {R : Rv} {r : Rp} {A : Option Addr} {c : Nat} {w w1 w2 : World} {v0 v1 v2 v3 v4 v5 v6 : Value} {b : Nat} (h : KeysOut R r A c w1 (.returned (.agg #[v0, v1, v2, v3, v4, v5, v6])) w2) (hb : Below w.heap.size w w1) (hlt : w.heap.size ≤ b) (hq : ∀ Q' : Option Addr, ∀ l, Rd w2 Q' l → Rd (((((((w2.setCell ⟨b, 0, none⟩ v0).setCell ⟨b, 1, none⟩ v1).setCell ⟨b, 2, none⟩ v2).setCell ⟨b, 3, none⟩ v3).setCell ⟨b, 4, none⟩ v4).setCell ⟨b, 5, none⟩ v5).setCell ⟨b, 6, none⟩ v6) Q' l) :
    KeysOut R r A c w (.returned (.agg #[v0, v1, v2, v3, v4, v5, v6])) (((((((w2.setCell ⟨b, 0, none⟩ v0).setCell ⟨b, 1, none⟩ v1).setCell ⟨b, 2, none⟩ v2).setCell ⟨b, 3, none⟩ v3).setCell ⟨b, 4, none⟩ v4).setCell ⟨b, 5, none⟩ v5).setCell ⟨b, 6, none⟩ v6) := by
  obtain ⟨R', Q', qc', h1, h2, h3, h4, h5, h6⟩ := h
  exact ⟨R', Q', qc', h1, h2, hq _ _ h3, h4, h5, below_s7 (hb.trans (h6.mono hb.size)) hlt⟩
/-- A row of texts does not lie in a driver's block. -/
theorem rd_no7 {w : World} {b T : Nat} {v0 v1 v2 v3 v4 v5 v6 : Value} {A : Option Addr} {l : List ByteArray} (hb : w.heap[b]? = some (.cells #[v0, v1, v2, v3, v4, v5, v6] T (0, 0))) (h0 : ∀ s, v0 ≠ .string s) (h1 : ∀ s, v1 ≠ .string s) (h2 : ∀ s, v2 ≠ .string s) (h3 : ∀ s, v3 ≠ .string s) (h4 : ∀ s, v4 ≠ .string s) (h5 : ∀ s, v5 ≠ .string s) (h6 : ∀ s, v6 ≠ .string s) (hr : Rd w A l) :
    l = [] ∨ ∀ b' off, A = some ⟨b', off, none⟩ → b' ≠ b := by
  rcases hr with h | ⟨b', off, rfl, h⟩
  · exact .inl h
  · cases l with
    | nil => exact .inl rfl
    | cons x l =>
      right
      intro b2 off2 e hbb
      cases e
      subst hbb
      have hx := h 0 x rfl
      rw [of_blk hb] at hx
      match off, hx with
      | 0, hx => simp at hx; exact h0 _ hx
      | 1, hx => simp at hx; exact h1 _ hx
      | 2, hx => simp at hx; exact h2 _ hx
      | 3, hx => simp at hx; exact h3 _ hx
      | 4, hx => simp at hx; exact h4 _ hx
      | 5, hx => simp at hx; exact h5 _ hx
      | 6, hx => simp at hx; exact h6 _ hx
      | n + 7, hx => simp at hx
theorem rd_s7n {w : World} {b T : Nat} {v0 v1 v2 v3 v4 v5 v6 : Value} {A : Option Addr} {l : List ByteArray} (hb : w.heap[b]? = some (.cells #[v0, v1, v2, v3, v4, v5, v6] T (0, 0))) (h0 : ∀ s, v0 ≠ .string s) (h1 : ∀ s, v1 ≠ .string s) (h2 : ∀ s, v2 ≠ .string s) (h3 : ∀ s, v3 ≠ .string s) (h4 : ∀ s, v4 ≠ .string s) (h5 : ∀ s, v5 ≠ .string s) (h6 : ∀ s, v6 ≠ .string s) (hr : Rd w A l) (u0 u1 u2 u3 u4 u5 u6 : Value) :
    Rd (((((((w.setCell ⟨b, 0, none⟩ u0).setCell ⟨b, 1, none⟩ u1).setCell ⟨b, 2, none⟩ u2).setCell ⟨b, 3, none⟩ u3).setCell ⟨b, 4, none⟩ u4).setCell ⟨b, 5, none⟩ u5).setCell ⟨b, 6, none⟩ u6) A l := by
  rcases rd_no7 hb h0 h1 h2 h3 h4 h5 h6 hr with rfl | hn
  · exact .inl rfl
  · exact rd_s7 hr hn _ _ _ _ _ _ _

set_option maxHeartbeats 2000000 in
theorem rans_3 (A : Option Addr) (M c : Nat) (B T : Int) (Q : Option Addr) (qn qc : Nat) (ep : Int) (k z : Int) (t : ByteArray) (Ar : Option Addr) (rn cr : Nat) (n0 : Int) (L0 : List ByteArray) (w : World) (hN : ∀ wx, Below w.heap.size w wx → Calls Tryd.prog 23 #[.agg #[.slice A M c, .int .i64 B, .int .i64 T, .int .i64 3, .slice Q qn qc, .int .i64 ep, .bool false]] wx (NextOut n0 L0 true wx)) (bO bB bA : Bool) (hO : isB k t 1 (ByteArray.toList ⟨#[79, 75]⟩) = bO) (hBz : isB k t 2 (ByteArray.toList ⟨#[69, 82, 82, 32, 98, 117, 115, 121]⟩) = bB) (hA : isB k t 2 (ByteArray.toList ⟨#[84, 82, 89, 65, 71, 65, 73, 78]⟩) = bA) (R0 : Rv) (r0 : Rp) (hK : ∀ wx, Below w.heap.size w wx → Calls Tryd.prog 28 #[.agg #[.slice A M c, .int .i64 B, .int .i64 T, .int .i64 3, .slice Q qn qc, .int .i64 ep, .bool false], .agg #[.int .i64 k, .int .i64 z, .string t, .slice Ar rn cr]] wx (KeysOut R0 r0 A c wx)) :
    Calls Tryd.prog 15 #[.agg #[.slice A M c, .int .i64 B, .int .i64 T, .int .i64 3, .slice Q qn qc, .int .i64 ep, .bool false], .agg #[.int .i64 k, .int .i64 z, .string t, .slice Ar rn cr]] w (AOut3 (bB || bA) (.agg #[.slice A M c, .int .i64 B, .int .i64 T, .int .i64 3, .slice Q qn qc, .int .i64 ep, .bool false]) (KeysOut R0 r0 A c w) w) := by
  have HO := Lib.hid hO
  have HBz := Lib.hid hBz
  have HA := Lib.hid hA
  have HKY := Lib.hid hK
  clear hO hBz hA hK
  have HNX := Lib.hid hN
  clear hN
  obtain ⟨a2, a3, a4, aB, aS⟩ := alloc3 w #[.slice A M c, .int .i64 B, .int .i64 T, .int .i64 3, .slice Q qn qc, .int .i64 ep, .bool false] #[.int .i64 k, .int .i64 z, .string t, .slice Ar rn cr] #[.slice none 0 0, .int .i64 0, .int .i64 0, .int .i64 0, .slice none 0 0, .int .i64 0, .bool false] 32 41 32
  have A2 := Lib.hid a2
  have A3 := Lib.hid a3
  have A4 := Lib.hid a4
  have AB := Lib.hid aB
  have AS := Lib.hid aS
  obtain ⟨x0, x1, x2, x3, x4, x5, x6⟩ := facts7 a2
  clear a2 a3 a4 aB aS
  go_enter Tryd.func15, Tryd.ntmps15
  go_upto_region 1 with (go_at_call 23; refine Calls.mono (HNX.out _ AB.out) ?_; rintro e w1 ⟨A1, c1, rfl, HR1, hb1⟩; have HB1 := Lib.hid hb1; clear hb1)
  go_cut [2, 3, 4, 7] (fun s2 s3 s4 s7 wx => s2 = .pointer (some ⟨w.heap.size, 0, none⟩) ∧ s3 = .pointer (some ⟨w.heap.size + 1, 0, none⟩) ∧ s4 = .pointer (some ⟨w.heap.size + 2, 0, none⟩) ∧ s7 = .bool true ∧ RowKit.Hid (wx.heap[w.heap.size]? = some (.cells #[.slice A M c, .int .i64 B, .int .i64 T, .int .i64 3, .slice Q qn qc, .int .i64 ep, .bool false] 32 (0, 0))) ∧ RowKit.Hid (wx.heap[w.heap.size + 1]? = some (.cells #[.int .i64 k, .int .i64 z, .string t, .slice Ar rn cr] 41 (0, 0))) ∧ RowKit.Hid (wx.heap[w.heap.size + 2]? = some (.cells #[.slice none 0 0, .int .i64 0, .int .i64 0, .int .i64 0, .slice none 0 0, .int .i64 0, .bool false] 32 (0, 0))) ∧ RowKit.Hid (Below w.heap.size w wx) ∧ RowKit.Hid (w.heap.size + 3 ≤ wx.heap.size))
  case first =>
    go_wp2_with (go_at_call 23; refine Calls.mono (HNX.out _ AB.out) ?_; rintro e w1 ⟨A1, c1, rfl, HR1, hb1⟩; have HB1 := Lib.hid hb1; clear hb1)
    go_meet
    exact ⟨rfl, rfl, rfl, rfl, Lib.hid (keep_block HB1.out A2.out), Lib.hid (keep_block HB1.out A3.out), Lib.hid (keep_block HB1.out A4.out), Lib.hid (AB.out.trans (HB1.out.mono (by rw [AS.out]; omega))), Lib.hid (by have := HB1.out.size; rw [AS.out] at this; exact this)⟩
  case rest =>
    obtain ⟨rfl, rfl, rfl, rfl, HX2, HX3, HX4, HB, HS⟩ := hcut
    clear A2 A3 A4 AB AS x0 x1 x2 x3 x4 x5 x6
    obtain ⟨x0, x1, x2, x3, x4, x5, x6⟩ := facts7 HX2.out
    obtain ⟨y0, y1, y2, y3⟩ := facts4 HX3.out
    obtain ⟨z0, z1, z2, z3, z4, z5, z6⟩ := facts7 HX4.out
    obtain ⟨e0, e1, e2, e3, e4, e5, e6⟩ := free7 HX2.out
    obtain ⟨f0, f1, f2, f3, f4, f5, f6⟩ := free7 HX4.out
    have hs2 : w.heap.size < wc.heap.size := by have := HS.out; omega
    have hs3 : w.heap.size + 1 < wc.heap.size := by have := HS.out; omega
    have hs4 : w.heap.size + 2 < wc.heap.size := by have := HS.out; omega
    cases bB with
    | true =>
      go_wp2_with (first | (go_at_call 26; with_reducible refine Calls.mono (is_bl _ z t Ar rn cr 1 ⟨#[79, 75]⟩ _ _ HO.out) ?_; (rintro e w9 ⟨rfl, hb9⟩; replace HX2 := Lib.hid (keep_block hb9 HX2.out); replace HX3 := Lib.hid (keep_block hb9 HX3.out); replace HX4 := Lib.hid (keep_block hb9 HX4.out); replace HB := Lib.hid (HB.out.trans (hb9.mono HB.out.size)); clear x0 x1 x2 x3 x4 x5 x6 y0 y1 y2 y3 z0 z1 z2 z3 z4 z5 z6 e0 e1 e2 e3 e4 e5 e6 f0 f1 f2 f3 f4 f5 f6 hb9 hs2 hs3 hs4; obtain ⟨x0, x1, x2, x3, x4, x5, x6⟩ := facts7 HX2.out; obtain ⟨y0, y1, y2, y3⟩ := facts4 HX3.out; obtain ⟨z0, z1, z2, z3, z4, z5, z6⟩ := facts7 HX4.out; obtain ⟨e0, e1, e2, e3, e4, e5, e6⟩ := free7 HX2.out; obtain ⟨f0, f1, f2, f3, f4, f5, f6⟩ := free7 HX4.out; have hs2 := lt_of_block HX2.out; have hs3 := lt_of_block HX3.out; have hs4 := lt_of_block HX4.out)) | (go_at_call 26; with_reducible refine Calls.mono (is_bl _ z t Ar rn cr 2 ⟨#[69, 82, 82, 32, 98, 117, 115, 121]⟩ _ _ HBz.out) ?_; (rintro e w9 ⟨rfl, hb9⟩; replace HX2 := Lib.hid (keep_block hb9 HX2.out); replace HX3 := Lib.hid (keep_block hb9 HX3.out); replace HX4 := Lib.hid (keep_block hb9 HX4.out); replace HB := Lib.hid (HB.out.trans (hb9.mono HB.out.size)); clear x0 x1 x2 x3 x4 x5 x6 y0 y1 y2 y3 z0 z1 z2 z3 z4 z5 z6 e0 e1 e2 e3 e4 e5 e6 f0 f1 f2 f3 f4 f5 f6 hb9 hs2 hs3 hs4; obtain ⟨x0, x1, x2, x3, x4, x5, x6⟩ := facts7 HX2.out; obtain ⟨y0, y1, y2, y3⟩ := facts4 HX3.out; obtain ⟨z0, z1, z2, z3, z4, z5, z6⟩ := facts7 HX4.out; obtain ⟨e0, e1, e2, e3, e4, e5, e6⟩ := free7 HX2.out; obtain ⟨f0, f1, f2, f3, f4, f5, f6⟩ := free7 HX4.out; have hs2 := lt_of_block HX2.out; have hs3 := lt_of_block HX3.out; have hs4 := lt_of_block HX4.out)))
      refine end7c Tryd.results15 rfl (set7 _ _ _ _ _ _ _ (by repeat (first | exact HX4.out | refine blk_other (by omega) ?_))) ?_
      exact aout3_w rfl (below_s7 HB.out (by omega))
    | false =>
      cases bA with
      | true =>
        go_wp2_with (first | (go_at_call 26; with_reducible refine Calls.mono (is_bl _ z t Ar rn cr 1 ⟨#[79, 75]⟩ _ _ HO.out) ?_; (rintro e w9 ⟨rfl, hb9⟩; replace HX2 := Lib.hid (keep_block hb9 HX2.out); replace HX3 := Lib.hid (keep_block hb9 HX3.out); replace HX4 := Lib.hid (keep_block hb9 HX4.out); replace HB := Lib.hid (HB.out.trans (hb9.mono HB.out.size)); clear x0 x1 x2 x3 x4 x5 x6 y0 y1 y2 y3 z0 z1 z2 z3 z4 z5 z6 e0 e1 e2 e3 e4 e5 e6 f0 f1 f2 f3 f4 f5 f6 hb9 hs2 hs3 hs4; obtain ⟨x0, x1, x2, x3, x4, x5, x6⟩ := facts7 HX2.out; obtain ⟨y0, y1, y2, y3⟩ := facts4 HX3.out; obtain ⟨z0, z1, z2, z3, z4, z5, z6⟩ := facts7 HX4.out; obtain ⟨e0, e1, e2, e3, e4, e5, e6⟩ := free7 HX2.out; obtain ⟨f0, f1, f2, f3, f4, f5, f6⟩ := free7 HX4.out; have hs2 := lt_of_block HX2.out; have hs3 := lt_of_block HX3.out; have hs4 := lt_of_block HX4.out)) | (go_at_call 26; with_reducible refine Calls.mono (is_bl _ z t Ar rn cr 2 ⟨#[69, 82, 82, 32, 98, 117, 115, 121]⟩ _ _ HBz.out) ?_; (rintro e w9 ⟨rfl, hb9⟩; replace HX2 := Lib.hid (keep_block hb9 HX2.out); replace HX3 := Lib.hid (keep_block hb9 HX3.out); replace HX4 := Lib.hid (keep_block hb9 HX4.out); replace HB := Lib.hid (HB.out.trans (hb9.mono HB.out.size)); clear x0 x1 x2 x3 x4 x5 x6 y0 y1 y2 y3 z0 z1 z2 z3 z4 z5 z6 e0 e1 e2 e3 e4 e5 e6 f0 f1 f2 f3 f4 f5 f6 hb9 hs2 hs3 hs4; obtain ⟨x0, x1, x2, x3, x4, x5, x6⟩ := facts7 HX2.out; obtain ⟨y0, y1, y2, y3⟩ := facts4 HX3.out; obtain ⟨z0, z1, z2, z3, z4, z5, z6⟩ := facts7 HX4.out; obtain ⟨e0, e1, e2, e3, e4, e5, e6⟩ := free7 HX2.out; obtain ⟨f0, f1, f2, f3, f4, f5, f6⟩ := free7 HX4.out; have hs2 := lt_of_block HX2.out; have hs3 := lt_of_block HX3.out; have hs4 := lt_of_block HX4.out)) | (go_at_call 26; with_reducible refine Calls.mono (is_bl _ z t Ar rn cr 2 ⟨#[84, 82, 89, 65, 71, 65, 73, 78]⟩ _ _ HA.out) ?_; (rintro e w9 ⟨rfl, hb9⟩; replace HX2 := Lib.hid (keep_block hb9 HX2.out); replace HX3 := Lib.hid (keep_block hb9 HX3.out); replace HX4 := Lib.hid (keep_block hb9 HX4.out); replace HB := Lib.hid (HB.out.trans (hb9.mono HB.out.size)); clear x0 x1 x2 x3 x4 x5 x6 y0 y1 y2 y3 z0 z1 z2 z3 z4 z5 z6 e0 e1 e2 e3 e4 e5 e6 f0 f1 f2 f3 f4 f5 f6 hb9 hs2 hs3 hs4; obtain ⟨x0, x1, x2, x3, x4, x5, x6⟩ := facts7 HX2.out; obtain ⟨y0, y1, y2, y3⟩ := facts4 HX3.out; obtain ⟨z0, z1, z2, z3, z4, z5, z6⟩ := facts7 HX4.out; obtain ⟨e0, e1, e2, e3, e4, e5, e6⟩ := free7 HX2.out; obtain ⟨f0, f1, f2, f3, f4, f5, f6⟩ := free7 HX4.out; have hs2 := lt_of_block HX2.out; have hs3 := lt_of_block HX3.out; have hs4 := lt_of_block HX4.out)))
        refine end7c Tryd.results15 rfl (set7 _ _ _ _ _ _ _ (by repeat (first | exact HX4.out | refine blk_other (by omega) ?_))) ?_
        exact aout3_w rfl (below_s7 HB.out (by omega))
      | false =>
        go_wp2_with (first | (go_at_call 26; with_reducible refine Calls.mono (is_bl _ z t Ar rn cr 1 ⟨#[79, 75]⟩ _ _ HO.out) ?_; (rintro e w9 ⟨rfl, hb9⟩; replace HX2 := Lib.hid (keep_block hb9 HX2.out); replace HX3 := Lib.hid (keep_block hb9 HX3.out); replace HX4 := Lib.hid (keep_block hb9 HX4.out); replace HB := Lib.hid (HB.out.trans (hb9.mono HB.out.size)); clear x0 x1 x2 x3 x4 x5 x6 y0 y1 y2 y3 z0 z1 z2 z3 z4 z5 z6 e0 e1 e2 e3 e4 e5 e6 f0 f1 f2 f3 f4 f5 f6 hb9 hs2 hs3 hs4; obtain ⟨x0, x1, x2, x3, x4, x5, x6⟩ := facts7 HX2.out; obtain ⟨y0, y1, y2, y3⟩ := facts4 HX3.out; obtain ⟨z0, z1, z2, z3, z4, z5, z6⟩ := facts7 HX4.out; obtain ⟨e0, e1, e2, e3, e4, e5, e6⟩ := free7 HX2.out; obtain ⟨f0, f1, f2, f3, f4, f5, f6⟩ := free7 HX4.out; have hs2 := lt_of_block HX2.out; have hs3 := lt_of_block HX3.out; have hs4 := lt_of_block HX4.out)) | (go_at_call 26; with_reducible refine Calls.mono (is_bl _ z t Ar rn cr 2 ⟨#[69, 82, 82, 32, 98, 117, 115, 121]⟩ _ _ HBz.out) ?_; (rintro e w9 ⟨rfl, hb9⟩; replace HX2 := Lib.hid (keep_block hb9 HX2.out); replace HX3 := Lib.hid (keep_block hb9 HX3.out); replace HX4 := Lib.hid (keep_block hb9 HX4.out); replace HB := Lib.hid (HB.out.trans (hb9.mono HB.out.size)); clear x0 x1 x2 x3 x4 x5 x6 y0 y1 y2 y3 z0 z1 z2 z3 z4 z5 z6 e0 e1 e2 e3 e4 e5 e6 f0 f1 f2 f3 f4 f5 f6 hb9 hs2 hs3 hs4; obtain ⟨x0, x1, x2, x3, x4, x5, x6⟩ := facts7 HX2.out; obtain ⟨y0, y1, y2, y3⟩ := facts4 HX3.out; obtain ⟨z0, z1, z2, z3, z4, z5, z6⟩ := facts7 HX4.out; obtain ⟨e0, e1, e2, e3, e4, e5, e6⟩ := free7 HX2.out; obtain ⟨f0, f1, f2, f3, f4, f5, f6⟩ := free7 HX4.out; have hs2 := lt_of_block HX2.out; have hs3 := lt_of_block HX3.out; have hs4 := lt_of_block HX4.out)) | (go_at_call 26; with_reducible refine Calls.mono (is_bl _ z t Ar rn cr 2 ⟨#[84, 82, 89, 65, 71, 65, 73, 78]⟩ _ _ HA.out) ?_; (rintro e w9 ⟨rfl, hb9⟩; replace HX2 := Lib.hid (keep_block hb9 HX2.out); replace HX3 := Lib.hid (keep_block hb9 HX3.out); replace HX4 := Lib.hid (keep_block hb9 HX4.out); replace HB := Lib.hid (HB.out.trans (hb9.mono HB.out.size)); clear x0 x1 x2 x3 x4 x5 x6 y0 y1 y2 y3 z0 z1 z2 z3 z4 z5 z6 e0 e1 e2 e3 e4 e5 e6 f0 f1 f2 f3 f4 f5 f6 hb9 hs2 hs3 hs4; obtain ⟨x0, x1, x2, x3, x4, x5, x6⟩ := facts7 HX2.out; obtain ⟨y0, y1, y2, y3⟩ := facts4 HX3.out; obtain ⟨z0, z1, z2, z3, z4, z5, z6⟩ := facts7 HX4.out; obtain ⟨e0, e1, e2, e3, e4, e5, e6⟩ := free7 HX2.out; obtain ⟨f0, f1, f2, f3, f4, f5, f6⟩ := free7 HX4.out; have hs2 := lt_of_block HX2.out; have hs3 := lt_of_block HX3.out; have hs4 := lt_of_block HX4.out)) | (go_at_call 28; refine Calls.mono (HKY.out _ HB.out) ?_; (rintro e w9 ⟨R', Q', qc', rfl, hpl, hrd, hlen, hor, hb9⟩; have HKO := Lib.hid (show KeysOut R0 r0 A c _ (.returned (rvV R' A c Q' qc')) w9 from ⟨R', Q', qc', rfl, hpl, hrd, hlen, hor, hb9⟩); have HBK := Lib.hid HB.out; clear hpl hrd hlen hor; replace HX2 := Lib.hid (keep_block hb9 HX2.out); replace HX3 := Lib.hid (keep_block hb9 HX3.out); replace HX4 := Lib.hid (keep_block hb9 HX4.out); replace HB := Lib.hid (HB.out.trans (hb9.mono HB.out.size)); clear x0 x1 x2 x3 x4 x5 x6 y0 y1 y2 y3 z0 z1 z2 z3 z4 z5 z6 e0 e1 e2 e3 e4 e5 e6 f0 f1 f2 f3 f4 f5 f6 hb9 hs2 hs3 hs4; obtain ⟨x0, x1, x2, x3, x4, x5, x6⟩ := facts7 HX2.out; obtain ⟨y0, y1, y2, y3⟩ := facts4 HX3.out; obtain ⟨z0, z1, z2, z3, z4, z5, z6⟩ := facts7 HX4.out; obtain ⟨e0, e1, e2, e3, e4, e5, e6⟩ := free7 HX2.out; obtain ⟨f0, f1, f2, f3, f4, f5, f6⟩ := free7 HX4.out; have hs2 := lt_of_block HX2.out; have hs3 := lt_of_block HX3.out; have hs4 := lt_of_block HX4.out)))
        refine end7c Tryd.results15 rfl (set7 _ _ _ _ _ _ _ (by repeat (first | exact HX4.out | refine blk_other (by omega) ?_))) ?_
        refine aout3_k rfl (ko_s7 HKO.out HBK.out (by omega) (fun Q' l hr => rd_s7n HX4.out (by simp) (by simp) (by simp) (by simp) (by simp) (by simp) (by simp) hr _ _ _ _ _ _ _))
end Go.Proofs.YtdfijefgklhmdaaDoor.T
