import Derived.Deep.DeepCutAuto
import Derived.Laws.OwnMore
import Derived.OwnWalk
import Derived.Lib.AppendStr
import Derived.Lib.SliceRun
import Derived.Lib.SmallJoins
import Derived.IntWalk
import Derived.Lib.ItoaLen
import Derived.Deep.AppendLies
import Derived.Test.YtdfijefgklhmdaaDoorProg
import Derived.Test.YtdfijefgklhmdaaDoorShelf
import Derived.Test.YtdfijefgklhmdaaDoorMem
import Derived.Deep.RegionLaw
import Derived.Test.YtdfijefgklhmdaaDoorSc
import Derived.WalkKit
import Derived.Outline
import Derived.WalkLawsBesides
import Derived.Deep.QuietTactic
import Derived.BigQuiet
import Derived.Lib.Hide
import Derived.Handy
import Derived.Deep.RegionHeld3
import Derived.Deep.DrawnRows
import Derived.KernelRfl
import Derived.Great.Walk
import Derived.Test.YtdfijefgklhmdaaDoorOwn
namespace Go.Proofs.YtdfijefgklhmdaaDoor.T
open Go Go.RowKit Go.Sort Mem Own
set_option maxRecDepth 100000
set_option maxHeartbeats 1000000
set_option linter.unusedVariables false
set_option linter.unusedSimpArgs false

theorem blk_alloc {w : World} {b : Nat} {o : Obj} (h : w.heap[b]? = some o) (o' : Obj) : (w.alloc o').heap[b]? = some o := keep_block ((Below.refl _ _).alloc (Nat.le_refl _) _) h
/-- ref20.is of a reply's kind and text. -/
def isB (k : Int) (t : ByteArray) (kind : Int) (l : List UInt8) : Bool := k == kind && t.toList == l
theorem is_at (k z : Int) (t : ByteArray) (A : Option Addr) (n c : Nat) (kind : Int) (text : ByteArray) (b : Bool) (w : World) (h : isB k t kind text.toList = b) : Calls Tryd.prog 26 #[.agg #[.int .i64 k, .int .i64 z, .string t, .slice A n c], .int .i64 kind, .string text] w fun e w' => e = .returned (.bool b) ∧ w' = w.alloc (.cells #[.int .i64 k, .int .i64 z, .string t, .slice A n c] 41) := by
  subst h
  exact is_is k z t A n c kind text w
theorem is_bl (k z : Int) (t : ByteArray) (A : Option Addr) (n c : Nat) (kind : Int) (text : ByteArray) (b : Bool) (w : World) (h : isB k t kind text.toList = b) : Calls Tryd.prog 26 #[.agg #[.int .i64 k, .int .i64 z, .string t, .slice A n c], .int .i64 kind, .string text] w fun e w' => e = .returned (.bool b) ∧ Below w.heap.size w w' := by
  refine Calls.mono (is_at k z t A n c kind text b w h) ?_
  rintro e w' ⟨h1, rfl⟩
  exact ⟨h1, (Below.refl _ _).alloc (Nat.le_refl _) _⟩
def eOK : ByteArray := ⟨#[79, 75]⟩
/-- What an answer leaves: the driver waits, goes on, or fails. -/
def AOut (wait ok : Bool) (vW vF : Value) (P : Option Addr → Prop) (f : Option Addr → Value) (w : World) (e : Ending) (w' : World) : Prop :=
  (∃ v, e = .returned v ∧ ((wait = true ∧ v = vW) ∨ (wait = false ∧ ok = true ∧ ∃ X, P X ∧ v = f X) ∨ (wait = false ∧ ok = false ∧ v = vF))) ∧ Below w.heap.size w w'
theorem aout_w {wait ok : Bool} {vW vF : Value} {P : Option Addr → Prop} {f : Option Addr → Value} {w w' : World} (h : wait = true) (hb : Below w.heap.size w w') : AOut wait ok vW vF P f w (.returned vW) w' := ⟨⟨_, rfl, .inl ⟨h, rfl⟩⟩, hb⟩
theorem aout_o {wait ok : Bool} {vW vF : Value} {P : Option Addr → Prop} {f : Option Addr → Value} {w w' : World} (X : Option Addr) (hP : P X) (h : wait = false) (h2 : ok = true) (hb : Below w.heap.size w w') : AOut wait ok vW vF P f w (.returned (f X)) w' := ⟨⟨_, rfl, .inr (.inl ⟨h, h2, X, hP, rfl⟩)⟩, hb⟩
theorem aout_f {wait ok : Bool} {vW vF : Value} {P : Option Addr → Prop} {f : Option Addr → Value} {w w' : World} (h : wait = false) (h2 : ok = false) (hb : Below w.heap.size w w') : AOut wait ok vW vF P f w (.returned vF) w' := ⟨⟨_, rfl, .inr (.inr ⟨h, h2, rfl⟩)⟩, hb⟩
def POr (m : Nat) (T X : Option Addr) : Prop := m = 0 ∨ X = T
/-- What an answer to the fifth call leaves. -/
def AOut5 (wait ne ok : Bool) (vW vN vO vF : Value) (w : World) (e : Ending) (w' : World) : Prop :=
  (∃ v, e = .returned v ∧ ((wait = true ∧ v = vW) ∨ (wait = false ∧ ne = true ∧ v = vN) ∨ (wait = false ∧ ne = false ∧ ok = true ∧ v = vO) ∨ (wait = false ∧ ne = false ∧ ok = false ∧ v = vF))) ∧ Below w.heap.size w w'
theorem aout5 {wait ne ok : Bool} {vW vN vO vF v : Value} {w w' : World} (h : (wait = true ∧ v = vW) ∨ (wait = false ∧ ne = true ∧ v = vN) ∨ (wait = false ∧ ne = false ∧ ok = true ∧ v = vO) ∨ (wait = false ∧ ne = false ∧ ok = false ∧ v = vF)) (hb : Below w.heap.size w w') : AOut5 wait ne ok vW vN vO vF w (.returned v) w' := ⟨⟨_, rfl, h⟩, hb⟩

set_option maxHeartbeats 2000000 in
theorem rans_1 (A : Option Addr) (M c : Nat) (B T : Int) (Q : Option Addr) (qn qc : Nat) (ep : Int) (k z : Int) (t : ByteArray) (Ar : Option Addr) (rn cr : Nat) (n0 : Int) (L0 : List ByteArray) (w : World) (hN : ∀ wx, Below w.heap.size w wx → Calls Tryd.prog 23 #[.agg #[.slice A M c, .int .i64 B, .int .i64 T, .int .i64 1, .slice Q qn qc, .int .i64 ep, .bool false]] wx (NextOut n0 L0 true wx)) (bO bB bA : Bool) (hO : isB k t 1 (ByteArray.toList ⟨#[79, 75]⟩) = bO) (hBz : isB k t 2 (ByteArray.toList ⟨#[69, 82, 82, 32, 98, 117, 115, 121]⟩) = bB) (hA : isB k t 2 (ByteArray.toList ⟨#[84, 82, 89, 65, 71, 65, 73, 78]⟩) = bA) :
    Calls Tryd.prog 15 #[.agg #[.slice A M c, .int .i64 B, .int .i64 T, .int .i64 1, .slice Q qn qc, .int .i64 ep, .bool false], .agg #[.int .i64 k, .int .i64 z, .string t, .slice Ar rn cr]] w (AOut (bB || bA) bO (.agg #[.slice A M c, .int .i64 B, .int .i64 T, .int .i64 1, .slice Q qn qc, .int .i64 ep, .bool false]) (.agg #[.slice A M c, .int .i64 B, .int .i64 T, .int .i64 1, .slice Q qn qc, .int .i64 ep, .bool true]) (fun _ => True) (fun _ => .agg #[.slice A M c, .int .i64 B, .int .i64 T, .int .i64 2, .slice Q qn qc, .int .i64 ep, .bool false]) w) := by
  have HO := Lib.hid hO
  have HBz := Lib.hid hBz
  have HA := Lib.hid hA
  clear hO hBz hA
  have HNX := Lib.hid hN
  clear hN
  obtain ⟨a2, a3, a4, aB, aS⟩ := alloc3 w #[.slice A M c, .int .i64 B, .int .i64 T, .int .i64 1, .slice Q qn qc, .int .i64 ep, .bool false] #[.int .i64 k, .int .i64 z, .string t, .slice Ar rn cr] #[.slice none 0 0, .int .i64 0, .int .i64 0, .int .i64 0, .slice none 0 0, .int .i64 0, .bool false] 32 41 32
  have A2 := Lib.hid a2
  have A3 := Lib.hid a3
  have A4 := Lib.hid a4
  have AB := Lib.hid aB
  have AS := Lib.hid aS
  obtain ⟨x0, x1, x2, x3, x4, x5, x6⟩ := facts7 a2
  clear a2 a3 a4 aB aS
  go_enter Tryd.func15, Tryd.ntmps15
  go_upto_region 1 with (go_at_call 23; refine Calls.mono (HNX.out _ AB.out) ?_; rintro e w1 ⟨A1, c1, rfl, HR1, hb1⟩; have HB1 := Lib.hid hb1; clear hb1)
  go_cut [2, 3, 4, 7] (fun s2 s3 s4 s7 wx => s2 = .pointer (some ⟨w.heap.size, 0, none⟩) ∧ s3 = .pointer (some ⟨w.heap.size + 1, 0, none⟩) ∧ s4 = .pointer (some ⟨w.heap.size + 2, 0, none⟩) ∧ s7 = .bool true ∧ RowKit.Hid (wx.heap[w.heap.size]? = some (.cells #[.slice A M c, .int .i64 B, .int .i64 T, .int .i64 1, .slice Q qn qc, .int .i64 ep, .bool false] 32 (0, 0))) ∧ RowKit.Hid (wx.heap[w.heap.size + 1]? = some (.cells #[.int .i64 k, .int .i64 z, .string t, .slice Ar rn cr] 41 (0, 0))) ∧ RowKit.Hid (wx.heap[w.heap.size + 2]? = some (.cells #[.slice none 0 0, .int .i64 0, .int .i64 0, .int .i64 0, .slice none 0 0, .int .i64 0, .bool false] 32 (0, 0))) ∧ RowKit.Hid (Below w.heap.size w wx) ∧ RowKit.Hid (w.heap.size + 3 ≤ wx.heap.size))
  case first =>
    go_wp2_with (go_at_call 23; refine Calls.mono (HNX.out _ AB.out) ?_; rintro e w1 ⟨A1, c1, rfl, HR1, hb1⟩; have HB1 := Lib.hid hb1; clear hb1)
    go_meet
    exact ⟨rfl, rfl, rfl, rfl, Lib.hid (keep_block HB1.out A2.out), Lib.hid (keep_block HB1.out A3.out), Lib.hid (keep_block HB1.out A4.out), Lib.hid (AB.out.trans (HB1.out.mono (by rw [AS.out]; omega))), Lib.hid (by have := HB1.out.size; rw [AS.out] at this; exact this)⟩
  case rest =>
    obtain ⟨rfl, rfl, rfl, rfl, HX2, HX3, HX4, HB, HS⟩ := hcut
    clear A2 A3 A4 AB AS x0 x1 x2 x3 x4 x5 x6
    obtain ⟨x0, x1, x2, x3, x4, x5, x6⟩ := facts7 HX2.out
    obtain ⟨y0, y1, y2, y3⟩ := facts4 HX3.out
    obtain ⟨z0, z1, z2, z3, z4, z5, z6⟩ := facts7 HX4.out
    obtain ⟨e0, e1, e2, e3, e4, e5, e6⟩ := free7 HX2.out
    obtain ⟨f0, f1, f2, f3, f4, f5, f6⟩ := free7 HX4.out
    have hs2 : w.heap.size < wc.heap.size := by have := HS.out; omega
    have hs3 : w.heap.size + 1 < wc.heap.size := by have := HS.out; omega
    have hs4 : w.heap.size + 2 < wc.heap.size := by have := HS.out; omega
    cases bB with
    | true =>
      go_wp2_with (first | (go_at_call 26; with_reducible refine Calls.mono (is_bl k z t Ar rn cr 1 ⟨#[79, 75]⟩ _ _ HO.out) ?_; (rintro e w9 ⟨rfl, hb9⟩; replace HX2 := Lib.hid (keep_block hb9 HX2.out); replace HX3 := Lib.hid (keep_block hb9 HX3.out); replace HX4 := Lib.hid (keep_block hb9 HX4.out); replace HB := Lib.hid (HB.out.trans (hb9.mono HB.out.size)); clear x0 x1 x2 x3 x4 x5 x6 y0 y1 y2 y3 z0 z1 z2 z3 z4 z5 z6 e0 e1 e2 e3 e4 e5 e6 f0 f1 f2 f3 f4 f5 f6 hb9 hs2 hs3 hs4; obtain ⟨x0, x1, x2, x3, x4, x5, x6⟩ := facts7 HX2.out; obtain ⟨y0, y1, y2, y3⟩ := facts4 HX3.out; obtain ⟨z0, z1, z2, z3, z4, z5, z6⟩ := facts7 HX4.out; obtain ⟨e0, e1, e2, e3, e4, e5, e6⟩ := free7 HX2.out; obtain ⟨f0, f1, f2, f3, f4, f5, f6⟩ := free7 HX4.out; have hs2 := lt_of_block HX2.out; have hs3 := lt_of_block HX3.out; have hs4 := lt_of_block HX4.out)) | (go_at_call 26; with_reducible refine Calls.mono (is_bl k z t Ar rn cr 2 ⟨#[69, 82, 82, 32, 98, 117, 115, 121]⟩ _ _ HBz.out) ?_; (rintro e w9 ⟨rfl, hb9⟩; replace HX2 := Lib.hid (keep_block hb9 HX2.out); replace HX3 := Lib.hid (keep_block hb9 HX3.out); replace HX4 := Lib.hid (keep_block hb9 HX4.out); replace HB := Lib.hid (HB.out.trans (hb9.mono HB.out.size)); clear x0 x1 x2 x3 x4 x5 x6 y0 y1 y2 y3 z0 z1 z2 z3 z4 z5 z6 e0 e1 e2 e3 e4 e5 e6 f0 f1 f2 f3 f4 f5 f6 hb9 hs2 hs3 hs4; obtain ⟨x0, x1, x2, x3, x4, x5, x6⟩ := facts7 HX2.out; obtain ⟨y0, y1, y2, y3⟩ := facts4 HX3.out; obtain ⟨z0, z1, z2, z3, z4, z5, z6⟩ := facts7 HX4.out; obtain ⟨e0, e1, e2, e3, e4, e5, e6⟩ := free7 HX2.out; obtain ⟨f0, f1, f2, f3, f4, f5, f6⟩ := free7 HX4.out; have hs2 := lt_of_block HX2.out; have hs3 := lt_of_block HX3.out; have hs4 := lt_of_block HX4.out)))
      refine end7c Tryd.results15 rfl (set7 _ _ _ _ _ _ _ (by repeat (first | exact HX4.out | refine blk_other (by omega) ?_))) ?_
      exact aout_w rfl (by first | exact below_s7 HB.out (by omega) | exact below_s7 (HB.out.setCell (Nat.le_refl _) _) (by omega) | exact below_s7 ((HB.out.setCell (Nat.le_refl _) _).setCell (Nat.le_refl _) _) (by omega) | exact below_s7 (((HB.out.setCell (Nat.le_refl _) _).setCell (Nat.le_refl _) _).setCell (Nat.le_refl _) _) (by omega))
    | false =>
      cases bA with
      | true =>
        go_wp2_with (first | (go_at_call 26; with_reducible refine Calls.mono (is_bl k z t Ar rn cr 1 ⟨#[79, 75]⟩ _ _ HO.out) ?_; (rintro e w9 ⟨rfl, hb9⟩; replace HX2 := Lib.hid (keep_block hb9 HX2.out); replace HX3 := Lib.hid (keep_block hb9 HX3.out); replace HX4 := Lib.hid (keep_block hb9 HX4.out); replace HB := Lib.hid (HB.out.trans (hb9.mono HB.out.size)); clear x0 x1 x2 x3 x4 x5 x6 y0 y1 y2 y3 z0 z1 z2 z3 z4 z5 z6 e0 e1 e2 e3 e4 e5 e6 f0 f1 f2 f3 f4 f5 f6 hb9 hs2 hs3 hs4; obtain ⟨x0, x1, x2, x3, x4, x5, x6⟩ := facts7 HX2.out; obtain ⟨y0, y1, y2, y3⟩ := facts4 HX3.out; obtain ⟨z0, z1, z2, z3, z4, z5, z6⟩ := facts7 HX4.out; obtain ⟨e0, e1, e2, e3, e4, e5, e6⟩ := free7 HX2.out; obtain ⟨f0, f1, f2, f3, f4, f5, f6⟩ := free7 HX4.out; have hs2 := lt_of_block HX2.out; have hs3 := lt_of_block HX3.out; have hs4 := lt_of_block HX4.out)) | (go_at_call 26; with_reducible refine Calls.mono (is_bl k z t Ar rn cr 2 ⟨#[69, 82, 82, 32, 98, 117, 115, 121]⟩ _ _ HBz.out) ?_; (rintro e w9 ⟨rfl, hb9⟩; replace HX2 := Lib.hid (keep_block hb9 HX2.out); replace HX3 := Lib.hid (keep_block hb9 HX3.out); replace HX4 := Lib.hid (keep_block hb9 HX4.out); replace HB := Lib.hid (HB.out.trans (hb9.mono HB.out.size)); clear x0 x1 x2 x3 x4 x5 x6 y0 y1 y2 y3 z0 z1 z2 z3 z4 z5 z6 e0 e1 e2 e3 e4 e5 e6 f0 f1 f2 f3 f4 f5 f6 hb9 hs2 hs3 hs4; obtain ⟨x0, x1, x2, x3, x4, x5, x6⟩ := facts7 HX2.out; obtain ⟨y0, y1, y2, y3⟩ := facts4 HX3.out; obtain ⟨z0, z1, z2, z3, z4, z5, z6⟩ := facts7 HX4.out; obtain ⟨e0, e1, e2, e3, e4, e5, e6⟩ := free7 HX2.out; obtain ⟨f0, f1, f2, f3, f4, f5, f6⟩ := free7 HX4.out; have hs2 := lt_of_block HX2.out; have hs3 := lt_of_block HX3.out; have hs4 := lt_of_block HX4.out)) | (go_at_call 26; with_reducible refine Calls.mono (is_bl k z t Ar rn cr 2 ⟨#[84, 82, 89, 65, 71, 65, 73, 78]⟩ _ _ HA.out) ?_; (rintro e w9 ⟨rfl, hb9⟩; replace HX2 := Lib.hid (keep_block hb9 HX2.out); replace HX3 := Lib.hid (keep_block hb9 HX3.out); replace HX4 := Lib.hid (keep_block hb9 HX4.out); replace HB := Lib.hid (HB.out.trans (hb9.mono HB.out.size)); clear x0 x1 x2 x3 x4 x5 x6 y0 y1 y2 y3 z0 z1 z2 z3 z4 z5 z6 e0 e1 e2 e3 e4 e5 e6 f0 f1 f2 f3 f4 f5 f6 hb9 hs2 hs3 hs4; obtain ⟨x0, x1, x2, x3, x4, x5, x6⟩ := facts7 HX2.out; obtain ⟨y0, y1, y2, y3⟩ := facts4 HX3.out; obtain ⟨z0, z1, z2, z3, z4, z5, z6⟩ := facts7 HX4.out; obtain ⟨e0, e1, e2, e3, e4, e5, e6⟩ := free7 HX2.out; obtain ⟨f0, f1, f2, f3, f4, f5, f6⟩ := free7 HX4.out; have hs2 := lt_of_block HX2.out; have hs3 := lt_of_block HX3.out; have hs4 := lt_of_block HX4.out)))
        refine end7c Tryd.results15 rfl (set7 _ _ _ _ _ _ _ (by repeat (first | exact HX4.out | refine blk_other (by omega) ?_))) ?_
        exact aout_w rfl (by first | exact below_s7 HB.out (by omega) | exact below_s7 (HB.out.setCell (Nat.le_refl _) _) (by omega) | exact below_s7 ((HB.out.setCell (Nat.le_refl _) _).setCell (Nat.le_refl _) _) (by omega) | exact below_s7 (((HB.out.setCell (Nat.le_refl _) _).setCell (Nat.le_refl _) _).setCell (Nat.le_refl _) _) (by omega))
      | false =>
        cases bO with
        | true =>
          go_wp2_with (first | (go_at_call 26; with_reducible refine Calls.mono (is_bl k z t Ar rn cr 1 ⟨#[79, 75]⟩ _ _ HO.out) ?_; (rintro e w9 ⟨rfl, hb9⟩; replace HX2 := Lib.hid (keep_block hb9 HX2.out); replace HX3 := Lib.hid (keep_block hb9 HX3.out); replace HX4 := Lib.hid (keep_block hb9 HX4.out); replace HB := Lib.hid (HB.out.trans (hb9.mono HB.out.size)); clear x0 x1 x2 x3 x4 x5 x6 y0 y1 y2 y3 z0 z1 z2 z3 z4 z5 z6 e0 e1 e2 e3 e4 e5 e6 f0 f1 f2 f3 f4 f5 f6 hb9 hs2 hs3 hs4; obtain ⟨x0, x1, x2, x3, x4, x5, x6⟩ := facts7 HX2.out; obtain ⟨y0, y1, y2, y3⟩ := facts4 HX3.out; obtain ⟨z0, z1, z2, z3, z4, z5, z6⟩ := facts7 HX4.out; obtain ⟨e0, e1, e2, e3, e4, e5, e6⟩ := free7 HX2.out; obtain ⟨f0, f1, f2, f3, f4, f5, f6⟩ := free7 HX4.out; have hs2 := lt_of_block HX2.out; have hs3 := lt_of_block HX3.out; have hs4 := lt_of_block HX4.out)) | (go_at_call 26; with_reducible refine Calls.mono (is_bl k z t Ar rn cr 2 ⟨#[69, 82, 82, 32, 98, 117, 115, 121]⟩ _ _ HBz.out) ?_; (rintro e w9 ⟨rfl, hb9⟩; replace HX2 := Lib.hid (keep_block hb9 HX2.out); replace HX3 := Lib.hid (keep_block hb9 HX3.out); replace HX4 := Lib.hid (keep_block hb9 HX4.out); replace HB := Lib.hid (HB.out.trans (hb9.mono HB.out.size)); clear x0 x1 x2 x3 x4 x5 x6 y0 y1 y2 y3 z0 z1 z2 z3 z4 z5 z6 e0 e1 e2 e3 e4 e5 e6 f0 f1 f2 f3 f4 f5 f6 hb9 hs2 hs3 hs4; obtain ⟨x0, x1, x2, x3, x4, x5, x6⟩ := facts7 HX2.out; obtain ⟨y0, y1, y2, y3⟩ := facts4 HX3.out; obtain ⟨z0, z1, z2, z3, z4, z5, z6⟩ := facts7 HX4.out; obtain ⟨e0, e1, e2, e3, e4, e5, e6⟩ := free7 HX2.out; obtain ⟨f0, f1, f2, f3, f4, f5, f6⟩ := free7 HX4.out; have hs2 := lt_of_block HX2.out; have hs3 := lt_of_block HX3.out; have hs4 := lt_of_block HX4.out)) | (go_at_call 26; with_reducible refine Calls.mono (is_bl k z t Ar rn cr 2 ⟨#[84, 82, 89, 65, 71, 65, 73, 78]⟩ _ _ HA.out) ?_; (rintro e w9 ⟨rfl, hb9⟩; replace HX2 := Lib.hid (keep_block hb9 HX2.out); replace HX3 := Lib.hid (keep_block hb9 HX3.out); replace HX4 := Lib.hid (keep_block hb9 HX4.out); replace HB := Lib.hid (HB.out.trans (hb9.mono HB.out.size)); clear x0 x1 x2 x3 x4 x5 x6 y0 y1 y2 y3 z0 z1 z2 z3 z4 z5 z6 e0 e1 e2 e3 e4 e5 e6 f0 f1 f2 f3 f4 f5 f6 hb9 hs2 hs3 hs4; obtain ⟨x0, x1, x2, x3, x4, x5, x6⟩ := facts7 HX2.out; obtain ⟨y0, y1, y2, y3⟩ := facts4 HX3.out; obtain ⟨z0, z1, z2, z3, z4, z5, z6⟩ := facts7 HX4.out; obtain ⟨e0, e1, e2, e3, e4, e5, e6⟩ := free7 HX2.out; obtain ⟨f0, f1, f2, f3, f4, f5, f6⟩ := free7 HX4.out; have hs2 := lt_of_block HX2.out; have hs3 := lt_of_block HX3.out; have hs4 := lt_of_block HX4.out)))
          refine end7c Tryd.results15 rfl (set7 _ _ _ _ _ _ _ (by repeat (first | exact HX4.out | refine blk_other (by omega) ?_))) ?_
          exact aout_o (f := fun _ => .agg #[.slice A M c, .int .i64 B, .int .i64 T, .int .i64 2, .slice Q qn qc, .int .i64 ep, .bool false]) none trivial rfl rfl (by first | exact below_s7 HB.out (by omega) | exact below_s7 (HB.out.setCell (Nat.le_refl _) _) (by omega) | exact below_s7 ((HB.out.setCell (Nat.le_refl _) _).setCell (Nat.le_refl _) _) (by omega) | exact below_s7 (((HB.out.setCell (Nat.le_refl _) _).setCell (Nat.le_refl _) _).setCell (Nat.le_refl _) _) (by omega))
        | false =>
          go_wp2_with (first | (go_at_call 26; with_reducible refine Calls.mono (is_bl k z t Ar rn cr 1 ⟨#[79, 75]⟩ _ _ HO.out) ?_; (rintro e w9 ⟨rfl, hb9⟩; replace HX2 := Lib.hid (keep_block hb9 HX2.out); replace HX3 := Lib.hid (keep_block hb9 HX3.out); replace HX4 := Lib.hid (keep_block hb9 HX4.out); replace HB := Lib.hid (HB.out.trans (hb9.mono HB.out.size)); clear x0 x1 x2 x3 x4 x5 x6 y0 y1 y2 y3 z0 z1 z2 z3 z4 z5 z6 e0 e1 e2 e3 e4 e5 e6 f0 f1 f2 f3 f4 f5 f6 hb9 hs2 hs3 hs4; obtain ⟨x0, x1, x2, x3, x4, x5, x6⟩ := facts7 HX2.out; obtain ⟨y0, y1, y2, y3⟩ := facts4 HX3.out; obtain ⟨z0, z1, z2, z3, z4, z5, z6⟩ := facts7 HX4.out; obtain ⟨e0, e1, e2, e3, e4, e5, e6⟩ := free7 HX2.out; obtain ⟨f0, f1, f2, f3, f4, f5, f6⟩ := free7 HX4.out; have hs2 := lt_of_block HX2.out; have hs3 := lt_of_block HX3.out; have hs4 := lt_of_block HX4.out)) | (go_at_call 26; with_reducible refine Calls.mono (is_bl k z t Ar rn cr 2 ⟨#[69, 82, 82, 32, 98, 117, 115, 121]⟩ _ _ HBz.out) ?_; (rintro e w9 ⟨rfl, hb9⟩; replace HX2 := Lib.hid (keep_block hb9 HX2.out); replace HX3 := Lib.hid (keep_block hb9 HX3.out); replace HX4 := Lib.hid (keep_block hb9 HX4.out); replace HB := Lib.hid (HB.out.trans (hb9.mono HB.out.size)); clear x0 x1 x2 x3 x4 x5 x6 y0 y1 y2 y3 z0 z1 z2 z3 z4 z5 z6 e0 e1 e2 e3 e4 e5 e6 f0 f1 f2 f3 f4 f5 f6 hb9 hs2 hs3 hs4; obtain ⟨x0, x1, x2, x3, x4, x5, x6⟩ := facts7 HX2.out; obtain ⟨y0, y1, y2, y3⟩ := facts4 HX3.out; obtain ⟨z0, z1, z2, z3, z4, z5, z6⟩ := facts7 HX4.out; obtain ⟨e0, e1, e2, e3, e4, e5, e6⟩ := free7 HX2.out; obtain ⟨f0, f1, f2, f3, f4, f5, f6⟩ := free7 HX4.out; have hs2 := lt_of_block HX2.out; have hs3 := lt_of_block HX3.out; have hs4 := lt_of_block HX4.out)) | (go_at_call 26; with_reducible refine Calls.mono (is_bl k z t Ar rn cr 2 ⟨#[84, 82, 89, 65, 71, 65, 73, 78]⟩ _ _ HA.out) ?_; (rintro e w9 ⟨rfl, hb9⟩; replace HX2 := Lib.hid (keep_block hb9 HX2.out); replace HX3 := Lib.hid (keep_block hb9 HX3.out); replace HX4 := Lib.hid (keep_block hb9 HX4.out); replace HB := Lib.hid (HB.out.trans (hb9.mono HB.out.size)); clear x0 x1 x2 x3 x4 x5 x6 y0 y1 y2 y3 z0 z1 z2 z3 z4 z5 z6 e0 e1 e2 e3 e4 e5 e6 f0 f1 f2 f3 f4 f5 f6 hb9 hs2 hs3 hs4; obtain ⟨x0, x1, x2, x3, x4, x5, x6⟩ := facts7 HX2.out; obtain ⟨y0, y1, y2, y3⟩ := facts4 HX3.out; obtain ⟨z0, z1, z2, z3, z4, z5, z6⟩ := facts7 HX4.out; obtain ⟨e0, e1, e2, e3, e4, e5, e6⟩ := free7 HX2.out; obtain ⟨f0, f1, f2, f3, f4, f5, f6⟩ := free7 HX4.out; have hs2 := lt_of_block HX2.out; have hs3 := lt_of_block HX3.out; have hs4 := lt_of_block HX4.out)) | (go_at_call 27; refine Calls.mono (fails_is _ _ _ _ _ _ _ _ _ _ _ _) ?_; (rintro e w9 ⟨rfl, hb9⟩; replace HX2 := Lib.hid (keep_block hb9 HX2.out); replace HX3 := Lib.hid (keep_block hb9 HX3.out); replace HX4 := Lib.hid (keep_block hb9 HX4.out); replace HB := Lib.hid (HB.out.trans (hb9.mono HB.out.size)); clear x0 x1 x2 x3 x4 x5 x6 y0 y1 y2 y3 z0 z1 z2 z3 z4 z5 z6 e0 e1 e2 e3 e4 e5 e6 f0 f1 f2 f3 f4 f5 f6 hb9 hs2 hs3 hs4; obtain ⟨x0, x1, x2, x3, x4, x5, x6⟩ := facts7 HX2.out; obtain ⟨y0, y1, y2, y3⟩ := facts4 HX3.out; obtain ⟨z0, z1, z2, z3, z4, z5, z6⟩ := facts7 HX4.out; obtain ⟨e0, e1, e2, e3, e4, e5, e6⟩ := free7 HX2.out; obtain ⟨f0, f1, f2, f3, f4, f5, f6⟩ := free7 HX4.out; have hs2 := lt_of_block HX2.out; have hs3 := lt_of_block HX3.out; have hs4 := lt_of_block HX4.out)))
          refine end7c Tryd.results15 rfl (set7 _ _ _ _ _ _ _ (by repeat (first | exact HX4.out | refine blk_other (by omega) ?_))) ?_
          exact aout_f rfl rfl (by first | exact below_s7 HB.out (by omega) | exact below_s7 (HB.out.setCell (Nat.le_refl _) _) (by omega) | exact below_s7 ((HB.out.setCell (Nat.le_refl _) _).setCell (Nat.le_refl _) _) (by omega) | exact below_s7 (((HB.out.setCell (Nat.le_refl _) _).setCell (Nat.le_refl _) _).setCell (Nat.le_refl _) _) (by omega))
end Go.Proofs.YtdfijefgklhmdaaDoor.T
