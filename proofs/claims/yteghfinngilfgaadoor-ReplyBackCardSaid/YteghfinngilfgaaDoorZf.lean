import Derived.Deep.DeepCutAuto
import Derived.Laws.OwnMore
import Derived.OwnWalk
import Derived.Lib.AppendStr
import Derived.Lib.SliceRun
import Derived.Lib.SmallJoins
import Derived.IntWalk
import Derived.Lib.ItoaLen
import Derived.WalkMore
import Derived.Lib.AtoiAllCases
import Derived.Lib.OthersKept
import Derived.Laws.Runes
import Derived.Deep.LoopGhost
import Derived.Deep.RegionLaw
import Derived.Deep.AppendLies
import Derived.Test.YteghfinngilfgaaDoorProg
import Derived.Test.YteghfinngilfgaaDoorMem
import Derived.Test.YteghfinngilfgaaDoorZb
import Derived.WalkKit
import Derived.Outline
import Derived.WalkLawsBesides
import Derived.Deep.QuietTactic
import Derived.BigQuiet
import Derived.Lib.Hide
import Derived.Handy
import Derived.Deep.RegionHeld3
import Derived.Deep.DrawnRows
import Derived.KernelRfl
import Derived.Great.Walk
import Derived.Test.YteghfinngilfgaaDoorOwn
namespace Go.Proofs.YteghfinngilfgaaDoor.T
open Go Go.RowKit Go.Sort Mem Own
set_option maxRecDepth 100000
set_option maxHeartbeats 1000000
set_option linter.unusedVariables false
set_option linter.unusedSimpArgs false

/-- The reply that alive makes. -/
def liveT : T := .mk 6 0 ⟨#[]⟩ (txs [⟨#[97]⟩, ⟨#[]⟩])
def liveB : List UInt8 := [42, 50, 13, 10, 36, 49, 13, 10, 97, 13, 10, 36, 48, 13, 10, 13, 10]
theorem live_enc : enc 0 liveT = some liveB := by decide +kernel
theorem live_wf : Wf liveT := by
  refine .mk (by decide) (by decide) (by decide) (by decide) fun y hy => ?_
  simp [txs] at hy
  rcases hy with rfl | rfl
  · exact .mk (by decide) (by decide) (by decide) (by decide) (by simp)
  · exact .mk (by decide) (by decide) (by decide) (by decide) (by simp)
theorem live_fit : Fit liveT := by
  refine .mk (by decide) fun y hy => ?_
  simp [txs] at hy
  rcases hy with rfl | rfl
  · exact .mk (by decide) (by simp)
  · exact .mk (by decide) (by simp)
theorem live_wt : wt 0 liveT ≤ 100000000000000 := by decide +kernel
theorem live_len : (liveB.length : Int) = 17 := by decide +kernel
theorem live_l : liveT.l.length = 2 := by decide +kernel
theorem live_dec {S : ByteArray} (h1 : S.toList = liveB) (h2 : S.size = 17) (wx : World) (hT : Tab wx) : Calls Tryd.prog 14 #[.string (S ++ ⟨#[120]⟩)] wx (fun e w' => ∃ A c, e = .returned (.tuple #[tV 6 0 ⟨#[]⟩ A 2 c, .int .i64 17, .int .i64 0]) ∧ RdT w' A liveT ∧ Below wx.heap.size wx w') := by
  have e1 : (S ++ ⟨#[120]⟩ : ByteArray).toList = liveB ++ [120] := by
    rw [toList_app, h1]
    have : (⟨#[120]⟩ : ByteArray).toList = [120] := by decide +kernel
    rw [this]
  have e2 : (S ++ ⟨#[120]⟩ : ByteArray).size ≤ 9223372036854775807 := by
    rw [ByteArray.size_append, h2]
    have : (⟨#[120]⟩ : ByteArray).size = 1 := by decide +kernel
    rw [this]
    omega
  have hd := decode_is liveT liveB [120] (S ++ ⟨#[120]⟩) wx live_enc live_wf live_wt e1 e2 hT
  refine hd.mono fun e w' h => ?_
  obtain ⟨A, c, k1, k2, k3⟩ := h
  rw [live_len, live_l] at k1
  exact ⟨A, c, k1, k2.rd, k3⟩
theorem sameB_refl_aux : ∀ n, (∀ x : T, x.sz ≤ n → sameB x x = true) ∧ (∀ l : List T, szs l ≤ n → sameBs l l = true) := by
  intro n
  induction n with
  | zero =>
    refine ⟨fun x h => by have := sz_pos x; omega, fun l => ?_⟩
    cases l with
    | nil => intro _; rfl
    | cons x l => intro h; simp only [szs] at h; have := sz_pos x; omega
  | succ n ih =>
    have h1 : ∀ x : T, x.sz ≤ n + 1 → sameB x x = true := by
      intro x hx
      obtain ⟨k, z, t, l⟩ := x
      simp only [T.sz] at hx
      simp [sameB, ih.2 l (by omega)]
    refine ⟨h1, fun l => ?_⟩
    induction l with
    | nil => intro _; rfl
    | cons x l ihl => intro h; simp only [szs] at h; have := sz_pos x; simp [sameBs, h1 x (by omega), ihl (by omega)]
theorem sameB_refl (x : T) : sameB x x = true := (sameB_refl_aux x.sz).1 x (Nat.le_refl _)
set_option maxHeartbeats 2000000 in
/-- law04.alive -/
theorem alive_is (w : World) (hT : Tab w) : Calls Tryd.prog 11 #[] w fun e w' => e = .returned (.bool true) ∧ Below w.heap.size w w' := by
  have HT := Lib.hid hT
  obtain ⟨S, hS⟩ : ∃ S : ByteArray, S = ⟨liveB.toArray⟩ := ⟨_, rfl⟩
  have HSL := Lib.hid (show S.toList = liveB by rw [hS]; decide +kernel)
  have hz : S.size = 17 := by rw [hS]; decide +kernel
  have hq : (S == ⟨#[42, 50, 13, 10, 36, 49, 13, 10, 97, 13, 10, 36, 48, 13, 10, 13, 10]⟩) = true := by rw [hS]; decide +kernel
  have hov : ¬ 9223372036854775807 < S.size + 1 := by omega
  have HL := Lib.hid (fun (b : Nat) (wx : World) (h : wx.heap[b]? = some (.cells #[.string ⟨#[97]⟩, .string ⟨#[]⟩] 9 (0, 0))) => (show Calls Tryd.prog 21 #[.slice (some ⟨b, 0, none⟩) 2 2] wx (fun e w' => ∃ C k, e = .returned (tV 6 0 ⟨#[]⟩ C 2 k) ∧ RdT w' C liveT ∧ Below wx.heap.size wx w') from
    list21_is (some ⟨b, 0, none⟩) [⟨#[97]⟩, ⟨#[]⟩] 2 wx (.inr ⟨b, 0, rfl, fun i x hx => by
      match i, hx with
      | 0, hx => cases hx; exact of_blk h 0
      | 1, hx => cases hx; exact of_blk h 1
      | i + 2, hx => simp at hx⟩) (by simp)))
  have HE := Lib.hid (fun (C : Option Addr) (k : Nat) (wx : World) (hr : RdT wx C liveT) (hT : Tab wx) => (show Calls Tryd.prog 12 #[tV 6 0 ⟨#[]⟩ C 2 k] wx (fun e w' => e = .returned (.tuple #[.string S, .bool true]) ∧ Below wx.heap.size wx w') by
    have := encode_is liveT C k wx hr live_wf live_wt hT
    unfold encS encO at this
    rw [live_enc] at this
    rw [hS]
    exact this))
  have HD := Lib.hid (fun (wx : World) (hT : Tab wx) => live_dec HSL.out hz wx hT)
  have HS := Lib.hid (fun (A : Option Addr) (c : Nat) (wx : World) (hr : RdT wx A liveT) => (show Calls Tryd.prog 15 #[tV 6 0 ⟨#[]⟩ A 2 c, tV 6 0 ⟨#[]⟩ A 2 c] wx (fun e w' => e = .returned (.bool true) ∧ Below wx.heap.size wx w') by
    have := psame_is (x := liveT) (y := liveT) (c := c) (d := c) hr hr live_fit
    rw [sameB_refl] at this
    exact this))
  clear hT hS
  go_enter Tryd.func11, Tryd.ntmps11
  go_upto_region 1 with fail
  go_cut [1, 2] (fun s1 s2 wx => s1 = .string S ∧ s2 = .bool true ∧ RowKit.Hid (Below w.heap.size w wx))
  case first =>
    go_wp2_with (first
      | (go_at_call 21; refine Calls.mono (HL.out _ _ (heap_alloc_new w _)) ?_; (rintro e w1 ⟨C, k, rfl, hr1, hb1⟩; have HR1 := Lib.hid hr1; have HB1 := Lib.hid (((Below.refl _ _).alloc (Nat.le_refl _) _).trans (hb1.mono (by rw [alloc_sz]; omega))); clear hr1 hb1))
      | (go_at_call 12; refine Calls.mono (HE.out C k _ HR1.out (HT.out.keep HB1.out)) ?_; (rintro e w2 ⟨rfl, hb2⟩; have HB2 := Lib.hid (HB1.out.trans (hb2.mono HB1.out.size)); clear hb2)))
    go_meet
    exact ⟨rfl, rfl, HB2⟩
  case rest =>
    obtain ⟨rfl, rfl, HB2⟩ := hcut
    go_upto_region 2 with fail
    go_cut [1, 2, 3, 4, 5] (fun s1 s2 s3 s4 s5 wx => ∃ g A c, s1 = .string S ∧ s2 = .bool true ∧ s3 = .pointer (some ⟨g, 0, none⟩) ∧ s4 = .int .i64 17 ∧ s5 = .int .i64 0 ∧ RowKit.Hid (wx.heap[g]? = some (.cells #[.int .i64 6, .int .i64 0, .string ⟨#[]⟩, .slice A 2 c] 24 (0, 0))) ∧ RowKit.Hid (RdT wx A liveT) ∧ RowKit.Hid (Below w.heap.size w wx))
    case first =>
      go_wp2_with (go_at_call 14; refine Calls.mono (HD.out _ (HT.out.keep HB2.out)) ?_; (rintro e w3 ⟨A, c, rfl, hr3, hb3⟩; have HR3 := Lib.hid hr3; have HB3 := Lib.hid (HB2.out.trans (hb3.mono HB2.out.size)); clear hr3 hb3))
      go_meet
      exact ⟨_, A, c, rfl, rfl, rfl, rfl, rfl, Lib.hid (heap_alloc_new w3 _), Lib.hid (HR3.out.below ((Below.refl _ _).alloc (Nat.le_refl _) _)), Lib.hid (HB3.out.alloc HB3.out.size _)⟩
    case rest =>
      obtain ⟨g, A, c, rfl, rfl, rfl, rfl, rfl, HG, HR, HB⟩ := hcut
      obtain ⟨x0, x1, x2, x3⟩ := cells4 HG.out
      go_wp2_with (go_at_call 15; refine Calls.mono (HS.out A c _ HR.out) ?_; (rintro e w4 ⟨rfl, hb4⟩; have HB4 := Lib.hid (HB.out.trans (hb4.mono HB.out.size)); clear hb4))
      go_ret
      exact ⟨rfl, HB4.out⟩
end Go.Proofs.YteghfinngilfgaaDoor.T
