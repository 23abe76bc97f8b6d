import Derived.Deep.DeepCutAuto
import Derived.Laws.OwnMore
import Derived.OwnWalk
import Derived.Lib.AppendStr
import Derived.Lib.SliceRun
import Derived.Lib.SmallJoins
import Derived.IntWalk
import Derived.Lib.ItoaLen
import Derived.WalkMore
import Derived.Lib.AtoiAllCases
import Derived.Lib.OthersKept
import Derived.Laws.Runes
import Derived.Deep.LoopGhost
import Derived.Deep.RegionLaw
import Derived.Deep.AppendLies
import Derived.Test.YteghfinngilfgaaDoorProg
import Derived.Test.YteghfinngilfgaaDoorMem
import Derived.Test.YteghfinngilfgaaDoorZg
import Derived.Test.YteghfinngilfgaaDoorYy
import Derived.WalkKit
import Derived.Outline
import Derived.WalkLawsBesides
import Derived.Deep.QuietTactic
import Derived.BigQuiet
import Derived.Lib.Hide
import Derived.Handy
import Derived.Deep.RegionHeld3
import Derived.Deep.DrawnRows
import Derived.KernelRfl
import Derived.Great.Walk
import Derived.Test.YteghfinngilfgaaDoorOwn
namespace Go.Proofs.YteghfinngilfgaaDoor.T
open Go Go.RowKit Go.Sort Mem Own
set_option maxRecDepth 100000
set_option maxHeartbeats 1000000
set_option linter.unusedVariables false
set_option linter.unusedSimpArgs false

set_option maxHeartbeats 4000000 in
/-- ref04.List -/
theorem list22_is (A : Option Addr) (ts : List ByteArray) (c : Nat) (w : World) (ha : Rd w A ts) (hn : ts.length ≤ 1000000000000) :
    Calls Tryd.prog 22 #[.slice A ts.length c] w fun e w' => ∃ C k, e = .returned (tV 6 0 ⟨#[]⟩ C ts.length k) ∧ RdT w' C (.mk 6 0 ⟨#[]⟩ (txs ts)) ∧ Below w.heap.size w w' := by
  have HA := Lib.hid ha
  obtain ⟨N, hN⟩ : ∃ N, N = ts.length := ⟨_, rfl⟩
  have HN := Lib.hid hN
  have hN1 : N ≤ 1000000000000 := by omega
  have HX := Lib.hid (new1 w #[.int .i64 0, .int .i64 0, .string ⟨#[]⟩, .slice none 0 0] 24)
  rw [← hN]
  clear ha hN hn
  go_enter Tryd.func22, Tryd.ntmps22
  go_upto_region 1 with fail
  obtain ⟨w1, hw1⟩ : ∃ w1, w1 = w.alloc (.cells #[.int .i64 0, .int .i64 0, .string ⟨#[]⟩, .slice none 0 0] 24) := ⟨_, rfl⟩
  have HS := Lib.hid (show w1.heap.size = w.heap.size + 1 by rw [hw1, alloc_sz])
  rw [← hw1] at HX ⊢
  clear hw1
  go_upto_region 2 with fail
  go_cut [0, 2, 3, 4] (fun s0 s2 s3 s4 wx => s2 = .pointer (some ⟨w.heap.size, 0, none⟩) ∧ s3 = .pointer (some ⟨w1.heap.size, 0, none⟩) ∧ s0 = .slice A N c ∧ s4 = .int .i64 0 ∧ RowKit.Hid (wx.heap[w.heap.size]? = some (.cells #[.int .i64 0, .int .i64 0, .string ⟨#[]⟩, .slice none 0 0] 24 (0, 0))) ∧ RowKit.Hid (wx.heap[w1.heap.size]? = some (.cells #[.int .i64 6, .int .i64 0, .string ⟨#[]⟩, .slice none 0 0] 24 (0, 0))) ∧ RowKit.Hid (Below w.heap.size w wx) ∧ RowKit.Hid (wx.heap.size = w.heap.size + 2))
  case first =>
    go_wp2_with fail
    go_meet
    exact ⟨rfl, rfl, rfl, rfl, Lib.hid (blk_new HX.out.1 _), Lib.hid (heap_alloc_new w1 _), Lib.hid (HX.out.2.alloc HX.out.2.size _), Lib.hid (by rw [alloc_sz, HS.out])⟩
  case rest =>
    obtain ⟨rfl, rfl, rfl, rfl, HX0, HR0, HB0, HZ0⟩ := hcut
    have hz0 := HZ0.out
    rw [HS.out] at HR0 ⊢
    go_wp2_with fail
    go_loopw [4] (fun s9 wx => ∃ (v : Value) (i : Nat), i ≤ N ∧ s9 = .int .i64 i ∧ RowKit.Hid (wx.heap[w.heap.size]? = some (.cells #[.int .i64 0, .int .i64 0, .string ⟨#[]⟩, .slice none 0 0] 24 (0, 0))) ∧ RowKit.Hid (wx.heap[w.heap.size + 1]? = some (.cells #[.int .i64 6, .int .i64 0, .string ⟨#[]⟩, v] 24 (0, 0))) ∧ RowKit.Hid (LSt (w.heap.size + 2) (txs ts) i v wx) ∧ RowKit.Hid (Below w.heap.size w wx) ∧ RowKit.Hid (w.heap.size + 2 ≤ wx.heap.size)) (fun s9 _ => N - (intOf s9).toNat)
    case atStart => exact ⟨_, 0, Nat.zero_le _, rfl, HX0, HR0, Lib.hid (LSt.nil _ _ _), HB0, Lib.hid (by omega)⟩
    case round =>
      obtain ⟨v, i, hi, rfl, HX1, HR1, HL, HB, HZ⟩ := hrel
      have hzr := HB.out.size
      have hz2 := HZ.out
      by_cases hlt : i < N
      · have hlt2 := Lib.hid (show i < ts.length by rw [← HN.out]; exact hlt)
        obtain ⟨b, off, rfl⟩ := HA.out.addr (Nat.zero_lt_of_lt hlt2.out)
        have g0 := cell_below HB.out (HA.out.cell hlt2.out)
        have HTX := Lib.hid (txs_at hlt2.out)
        have hln := Lib.hid (show (txs ts).length ≤ 1000000000000 by rw [txs_len, ← HN.out]; exact hN1)
        generalize ts[i]'hlt2.out = s at g0 HTX
        obtain ⟨A', c', rfl⟩ := HL.out.form
        obtain ⟨x0, x1, x2, x3⟩ := cells4 HR1.out
        obtain ⟨f0, f1, f2, f3⟩ := frees4 HR1.out
        go_wp2_with fail
        go_region_law
          (first
            | ((fail_if_success (have := hb4)); go_simp; go_at_call 18; refine Calls.mono (rtext_is s _) ?_; (rintro e w4 ⟨rfl, hb4'⟩; have hb4 : RowKit.Below wr.heap.size wr w4 := (by first | exact hb4' | exact (Below.drew (Below.refl _ _)).trans hb4'); clear hb4'; have hz4 := hb4.size; have hk4 : w.heap.size + 1 < w4.heap.size := (by omega); clear x0 x1 x2 x3 f0 f1 f2 f3; obtain ⟨x0, x1, x2, x3⟩ := cells4 (keep_blk hb4 HR1.out); obtain ⟨f0, f1, f2, f3⟩ := frees4 (keep_blk hb4 HR1.out); (try go_simp)))
            | (refine Own.step_append_run rfl (.tmp 13) (.tmp 19) 22 22 rfl (.slice A' i c') (.slice (some ⟨_, 0, none⟩) 1 1) rfl rfl _ (LSt.push (x := .mk 4 0 s []) (c := 0) HL.out HTX.out hln.out hz2 (w1 := w4) (w2 := w4.alloc _) (A := none) (fun _ _ => .inl rfl) (by exact hb4) ((Below.refl _ _).alloc (Nat.le_refl _) _) (heap_alloc_new w4 _)) ?_; (rintro v5 w5 ⟨hL5, hK5, hG5, hV5⟩; obtain ⟨C5, k5, rfl⟩ := hL5.form; have HL5 := Lib.hid hL5; have HX5 := Lib.hid (hK5 _ _ (by omega) (blk_new (keep_blk hb4 HX1.out) _)); have HR5 := Lib.hid (hK5 _ _ (by omega) (blk_new (keep_blk hb4 HR1.out) _)); have HB5 := Lib.hid (((HB.out.trans (hb4.mono hzr)).alloc (by omega) _).grown hG5 (by rw [alloc_sz]; omega) (fun k hk => by have := hV5 k hk; omega)); have hZ5 := hG5.size; rw [alloc_sz] at hZ5; clear hL5 hK5 hG5 hV5 x0 x1 x2 x3 f0 f1 f2 f3; obtain ⟨x0, x1, x2, x3⟩ := cells4 HR5.out; obtain ⟨f0, f1, f2, f3⟩ := frees4 HR5.out)))
        all_goals
          go_wp2_with fail
          refine ⟨⟨_, i + 1, by omega, by go_num, Lib.hid (blk_off (by omega) HX5.out), Lib.hid ?_, Lib.hid (HL5.out.set (by omega)), Lib.hid (HB5.out.setCell (Nat.le_succ _) _), Lib.hid (by rw [set_sz]; have := lt_of_blk HR5.out; omega)⟩, by simp [intOf]; omega⟩
          have := blk_set (i := 3) HR5.out (.slice C5 (i + 1) k5); simpa using this
      · have hiN : i = ts.length := by rw [← HN.out]; omega
        have hltN : ¬ ts.length < N := by rw [← HN.out]; omega
        obtain ⟨C, k, rfl, hrd⟩ := (show LSt (w.heap.size + 2) (txs ts) (txs ts).length v wr by rw [txs_len, ← hiN]; exact HL.out).out
        have HRD := Lib.hid hrd
        clear hrd
        rw [txs_len] at HR1
        obtain ⟨x0, x1, x2, x3⟩ := cells4 HR1.out
        obtain ⟨y0, y1, y2, y3⟩ := cells4 HX1.out
        obtain ⟨f0, f1, f2, f3⟩ := frees4 HX1.out
        have hbw : w.heap.size < wr.heap.size := by omega
        go_wp2_with fail
        refine ret_one rfl rfl (sets4 _ _ _ _ HX1.out) ?_
        exact ⟨C, k, by rw [HN.out], ((((HRD.out.set (by omega)).set (by omega)).set (by omega)).set (by omega)).rd, below_sets4 HB.out (Nat.le_refl _)⟩
set_option maxHeartbeats 4000000 in
/-- ReplyMakes -/
theorem makes_law (s : ByteArray) (n : Int) (A : Option Addr) (ts : List ByteArray) (c : Nat) (w : World) (ha : Rd w A ts) (hn : ts.length ≤ 1000000000000) (hT : Tab w) :
    Calls Tryd.prog 8 #[.string s, .int .i64 n, .slice A ts.length c] w (Yes w) := by
  have HA := Lib.hid (fun (wx : World) (hb : Below w.heap.size w wx) => alive_is wx (hT.keep hb))
  have HQ := Lib.hid (fun (k z : Int) (t : ByteArray) (wx : World) => (show Calls Tryd.prog 16 #[tV k z t none 0 0, tV k z t none 0 0] wx (Yes wx) by
    have := rsame_all (T.mk k z t []).sz (.mk k z t []) (.mk k z t []) none none 0 0 wx (Nat.le_refl _) (.inl rfl) (.inl rfl) (.mk (by simp) (by simp))
    rw [sameB_refl] at this
    exact this))
  have HL1 := Lib.hid (fun (wx : World) (hb : Below w.heap.size w wx) => list21_is A ts c wx (ha.below hb) hn)
  have HL2 := Lib.hid (fun (wx : World) (hb : Below w.heap.size w wx) => list22_is A ts c wx (ha.below hb) hn)
  have HQL := Lib.hid (fun (C D : Option Addr) (k l : Nat) (wx : World) (h1 : RdT wx C (.mk 6 0 ⟨#[]⟩ (txs ts))) (h2 : RdT wx D (.mk 6 0 ⟨#[]⟩ (txs ts))) => (show Calls Tryd.prog 16 #[tV 6 0 ⟨#[]⟩ C ts.length k, tV 6 0 ⟨#[]⟩ D ts.length l] wx (Yes wx) by
    have := rsame_all (T.mk 6 0 ⟨#[]⟩ (txs ts)).sz (.mk 6 0 ⟨#[]⟩ (txs ts)) (.mk 6 0 ⟨#[]⟩ (txs ts)) C D k l wx (Nat.le_refl _) h1 h2 (.mk (by rw [txs_len]; omega) (fun y hy => by
      simp only [txs, List.mem_map] at hy
      obtain ⟨t, -, rfl⟩ := hy
      exact .mk (by simp) (by simp)))
    rw [sameB_refl] at this
    simpa [T.k, T.z, T.t, T.l, txs_len] using this))
  generalize ts.length = N at *
  clear ha hn hT
  go_enter Tryd.func8, Tryd.ntmps8
  go_wp2_with (first
    | (go_at_call 11; refine Calls.mono (HA.out _ (Below.refl _ _)) ?_; (rintro e w1 ⟨rfl, hb1⟩; have HB1 := Lib.hid hb1; clear hb1))
    | (go_at_call 17; refine Calls.mono (text_is s _) ?_; (rintro e w2 ⟨rfl, hb2⟩; have HB2 := Lib.hid (HB1.out.trans (hb2.mono HB1.out.size)); clear hb2))
    | (go_at_call 18; refine Calls.mono (rtext_is s _) ?_; (rintro e w3 ⟨rfl, hb3⟩; have HB3 := Lib.hid (HB2.out.trans (hb3.mono HB2.out.size)); clear hb3))
    | ((fail_if_success (have := HB4)); go_at_call 16; refine Calls.mono (HQ.out 4 0 s _) ?_; (rintro e w4 ⟨rfl, hb4⟩; have HB4 := Lib.hid (HB3.out.trans (hb4.mono HB3.out.size)); clear hb4))
    | (go_at_call 19; refine Calls.mono (num_is n _) ?_; (rintro e w5 ⟨rfl, hb5⟩; have HB5 := Lib.hid (HB4.out.trans (hb5.mono HB4.out.size)); clear hb5))
    | ((fail_if_success (have := HB6)); go_at_call 16; refine Calls.mono (HQ.out 3 n ⟨#[]⟩ _) ?_; (rintro e w6 ⟨rfl, hb6⟩; have HB6 := Lib.hid (HB5.out.trans (hb6.mono HB5.out.size)); clear hb6))
    | (go_at_call 20; refine Calls.mono (wrong_is s _) ?_; (rintro e w7 ⟨rfl, hb7⟩; have HB7 := Lib.hid (HB6.out.trans (hb7.mono HB6.out.size)); clear hb7))
    | ((fail_if_success (have := HB8)); go_at_call 16; refine Calls.mono (HQ.out 2 0 s _) ?_; (rintro e w8 ⟨rfl, hb8⟩; have HB8 := Lib.hid (HB7.out.trans (hb8.mono HB7.out.size)); clear hb8))
    | (go_at_call 21; refine Calls.mono (HL1.out _ HB8.out) ?_; (rintro e w9 ⟨C, k, rfl, hr9, hb9⟩; have HR9 := Lib.hid hr9; have HB9 := Lib.hid (HB8.out.trans (hb9.mono HB8.out.size)); clear hb9 hr9))
    | (go_at_call 22; refine Calls.mono (HL2.out _ HB9.out) ?_; (rintro e wa ⟨D, l, rfl, hra, hba⟩; have HRa := Lib.hid hra; have HR9a := Lib.hid (HR9.out.below hba); have HBa := Lib.hid (HB9.out.trans (hba.mono HB9.out.size)); clear hba hra))
    | (go_at_call 16; refine Calls.mono (HQL.out C D k l _ HR9a.out HRa.out) ?_; (rintro e wb ⟨rfl, hbb⟩; have HBb := Lib.hid (HBa.out.trans (hbb.mono HBa.out.size)); clear hbb)))
  go_ret
  exact ⟨rfl, HBb.out⟩
end Go.Proofs.YteghfinngilfgaaDoor.T
