import Derived.Deep.DeepCutAuto
import Derived.Laws.OwnMore
import Derived.OwnWalk
import Derived.Lib.AppendStr
import Derived.Lib.SliceRun
import Derived.Lib.SmallJoins
import Derived.IntWalk
import Derived.Lib.ItoaLen
import Derived.WalkMore
import Derived.Lib.AtoiAllCases
import Derived.Lib.OthersKept
import Derived.Laws.Runes
import Derived.Deep.LoopGhost
import Derived.Deep.RegionLaw
import Derived.Deep.AppendLies
import Derived.Test.YteghfinngilfgaaDoorProg
import Derived.Test.YteghfinngilfgaaDoorMem
import Derived.Test.YteghfinngilfgaaDoorZe
import Derived.WalkKit
import Derived.Outline
import Derived.WalkLawsBesides
import Derived.Deep.QuietTactic
import Derived.BigQuiet
import Derived.Lib.Hide
import Derived.Handy
import Derived.Deep.RegionHeld3
import Derived.Deep.DrawnRows
import Derived.KernelRfl
import Derived.Great.Walk
import Derived.Test.YteghfinngilfgaaDoorOwn
namespace Go.Proofs.YteghfinngilfgaaDoor.T
open Go Go.RowKit Go.Sort Mem Own
set_option maxRecDepth 100000
set_option maxHeartbeats 1000000
set_option linter.unusedVariables false
set_option linter.unusedSimpArgs false

/-- The texts of a list, as replies. -/
def txs (ts : List ByteArray) : List T := ts.map fun t => T.mk 4 0 t []
theorem txs_len (ts : List ByteArray) : (txs ts).length = ts.length := by simp [txs]
theorem txs_at {ts : List ByteArray} {i : Nat} (h : i < ts.length) : (txs ts)[i]? = some (.mk 4 0 ts[i] []) := by simp [txs, h]
theorem blk_ne {w : World} {b g T T' : Nat} {cs : Array Value} {fr : Nat × Nat} {o : Obj} (h : w.heap[b]? = some o) (h2 : w.heap[g]? = none) : b ≠ g := by rintro rfl; rw [h] at h2; cases h2
theorem LSt.set {B b j : Nat} {l : List T} {i : Nat} {v u : Value} {w : World} (h : LSt B l i v w) (hb : b < B) : LSt B l i v (w.setCell ⟨b, j, none⟩ u) := by
  obtain ⟨q, h1, h2, h3⟩ := h.ex
  exact ⟨q, h1, own_keep h2 fun k hk o ho => blk_off (by have := (h2.lt k hk).1; omega) ho, fun p hp => (h3 p hp).step (fun k hk _ o ho => blk_off (by omega) ho) (.inl rfl)⟩
theorem set_sz (w : World) (a : Addr) (v : Value) : (w.setCell a v).heap.size = w.heap.size := by simp [World.setCell]
set_option maxHeartbeats 4000000 in
/-- reply.List -/
theorem list21_is (A : Option Addr) (ts : List ByteArray) (c : Nat) (w : World) (ha : Rd w A ts) (hn : ts.length ≤ 1000000000000) :
    Calls Tryd.prog 21 #[.slice A ts.length c] w fun e w' => ∃ C k, e = .returned (tV 6 0 ⟨#[]⟩ C ts.length k) ∧ RdT w' C (.mk 6 0 ⟨#[]⟩ (txs ts)) ∧ Below w.heap.size w w' := by
  have HA := Lib.hid ha
  obtain ⟨N, hN⟩ : ∃ N, N = ts.length := ⟨_, rfl⟩
  have HN := Lib.hid hN
  have hN1 : N ≤ 1000000000000 := by omega
  have HX := Lib.hid (new1 w #[.int .i64 0, .int .i64 0, .string ⟨#[]⟩, .slice none 0 0] 24)
  rw [← hN]
  clear ha hN hn
  go_enter Tryd.func21, Tryd.ntmps21
  go_upto_region 1 with fail
  obtain ⟨w1, hw1⟩ : ∃ w1, w1 = w.alloc (.cells #[.int .i64 0, .int .i64 0, .string ⟨#[]⟩, .slice none 0 0] 24) := ⟨_, rfl⟩
  have HS := Lib.hid (show w1.heap.size = w.heap.size + 1 by rw [hw1, alloc_sz])
  rw [← hw1] at HX ⊢
  clear hw1
  go_upto_region 2 with fail
  go_cut [2, 3, 7, 8, 9] (fun s2 s3 s7 s8 s9 wx => s2 = .pointer (some ⟨w.heap.size, 0, none⟩) ∧ s3 = .pointer (some ⟨w1.heap.size, 0, none⟩) ∧ s7 = .slice A N c ∧ s8 = .int .i64 N ∧ s9 = .int .i64 0 ∧ RowKit.Hid (wx.heap[w.heap.size]? = some (.cells #[.int .i64 0, .int .i64 0, .string ⟨#[]⟩, .slice none 0 0] 24 (0, 0))) ∧ RowKit.Hid (wx.heap[w1.heap.size]? = some (.cells #[.int .i64 6, .int .i64 0, .string ⟨#[]⟩, .slice none 0 0] 24 (0, 0))) ∧ RowKit.Hid (Below w.heap.size w wx) ∧ RowKit.Hid (wx.heap.size = w.heap.size + 2))
  case first =>
    go_wp2_with fail
    go_meet
    exact ⟨rfl, rfl, rfl, rfl, rfl, Lib.hid (blk_new HX.out.1 _), Lib.hid (heap_alloc_new w1 _), Lib.hid (HX.out.2.alloc HX.out.2.size _), Lib.hid (by rw [alloc_sz, HS.out])⟩
  case rest =>
    obtain ⟨rfl, rfl, rfl, rfl, rfl, HX0, HR0, HB0, HZ0⟩ := hcut
    have hz0 := HZ0.out
    rw [HS.out] at HR0 ⊢
    go_wp2_with fail
    go_loopw [9] (fun s9 wx => ∃ (v : Value) (i : Nat), i ≤ N ∧ s9 = .int .i64 i ∧ RowKit.Hid (wx.heap[w.heap.size]? = some (.cells #[.int .i64 0, .int .i64 0, .string ⟨#[]⟩, .slice none 0 0] 24 (0, 0))) ∧ RowKit.Hid (wx.heap[w.heap.size + 1]? = some (.cells #[.int .i64 6, .int .i64 0, .string ⟨#[]⟩, v] 24 (0, 0))) ∧ RowKit.Hid (LSt (w.heap.size + 2) (txs ts) i v wx) ∧ RowKit.Hid (Below w.heap.size w wx) ∧ RowKit.Hid (w.heap.size + 2 ≤ wx.heap.size)) (fun s9 _ => N - (intOf s9).toNat)
    case atStart => exact ⟨_, 0, Nat.zero_le _, rfl, HX0, HR0, Lib.hid (LSt.nil _ _ _), HB0, Lib.hid (by omega)⟩
    case round =>
      obtain ⟨v, i, hi, rfl, HX1, HR1, HL, HB, HZ⟩ := hrel
      have hzr := HB.out.size
      have hz2 := HZ.out
      by_cases hlt : i < N
      · have hlt2 := Lib.hid (show i < ts.length by rw [← HN.out]; exact hlt)
        obtain ⟨b, off, rfl⟩ := HA.out.addr (Nat.zero_lt_of_lt hlt2.out)
        have g0 := cell_below HB.out (HA.out.cell hlt2.out)
        have HTX := Lib.hid (txs_at hlt2.out)
        have hln := Lib.hid (show (txs ts).length ≤ 1000000000000 by rw [txs_len, ← HN.out]; exact hN1)
        generalize ts[i]'hlt2.out = s at g0 HTX
        obtain ⟨A', c', rfl⟩ := HL.out.form
        obtain ⟨x0, x1, x2, x3⟩ := cells4 HR1.out
        obtain ⟨f0, f1, f2, f3⟩ := frees4 HR1.out
        go_wp2_with fail
        go_region_law
          (first
            | ((fail_if_success (have := hb4)); go_simp; go_at_call 17; refine Calls.mono (text_is s _) ?_; (rintro e w4 ⟨rfl, hb4'⟩; have hb4 : RowKit.Below wr.heap.size wr w4 := (by first | exact hb4' | exact (Below.drew (Below.refl _ _)).trans hb4'); clear hb4'; have hz4 := hb4.size; have hk4 : w.heap.size + 1 < w4.heap.size := (by omega); clear x0 x1 x2 x3 f0 f1 f2 f3; obtain ⟨x0, x1, x2, x3⟩ := cells4 (keep_blk hb4 HR1.out); obtain ⟨f0, f1, f2, f3⟩ := frees4 (keep_blk hb4 HR1.out); (try go_simp)))
            | (refine Own.step_append_run rfl (.tmp 14) (.tmp 17) 22 22 rfl (.slice A' i c') (.slice (some ⟨_, 0, none⟩) 1 1) rfl rfl _ (LSt.push (x := .mk 4 0 s []) (c := 0) HL.out HTX.out hln.out hz2 (w1 := w4) (w2 := w4.alloc _) (A := none) (fun _ _ => .inl rfl) (by exact hb4) ((Below.refl _ _).alloc (Nat.le_refl _) _) (heap_alloc_new w4 _)) ?_; (rintro v5 w5 ⟨hL5, hK5, hG5, hV5⟩; obtain ⟨C5, k5, rfl⟩ := hL5.form; have HL5 := Lib.hid hL5; have HX5 := Lib.hid (hK5 _ _ (by omega) (blk_new (keep_blk hb4 HX1.out) _)); have HR5 := Lib.hid (hK5 _ _ (by omega) (blk_new (keep_blk hb4 HR1.out) _)); have HB5 := Lib.hid (((HB.out.trans (hb4.mono hzr)).alloc (by omega) _).grown hG5 (by rw [alloc_sz]; omega) (fun k hk => by have := hV5 k hk; omega)); have hZ5 := hG5.size; rw [alloc_sz] at hZ5; clear hL5 hK5 hG5 hV5 x0 x1 x2 x3 f0 f1 f2 f3; obtain ⟨x0, x1, x2, x3⟩ := cells4 HR5.out; obtain ⟨f0, f1, f2, f3⟩ := frees4 HR5.out)))
        all_goals
          go_wp2_with fail
          refine ⟨⟨_, i + 1, by omega, by go_num, Lib.hid (blk_off (by omega) HX5.out), Lib.hid ?_, Lib.hid (HL5.out.set (by omega)), Lib.hid (HB5.out.setCell (Nat.le_succ _) _), Lib.hid (by rw [set_sz]; have := lt_of_blk HR5.out; omega)⟩, by simp [intOf]; omega⟩
          have := blk_set (i := 3) HR5.out (.slice C5 (i + 1) k5); simpa using this
      · have hiN : i = ts.length := by rw [← HN.out]; omega
        have hltN : ¬ ts.length < N := by rw [← HN.out]; omega
        obtain ⟨C, k, rfl, hrd⟩ := (show LSt (w.heap.size + 2) (txs ts) (txs ts).length v wr by rw [txs_len, ← hiN]; exact HL.out).out
        have HRD := Lib.hid hrd
        clear hrd
        rw [txs_len] at HR1
        obtain ⟨x0, x1, x2, x3⟩ := cells4 HR1.out
        obtain ⟨y0, y1, y2, y3⟩ := cells4 HX1.out
        obtain ⟨f0, f1, f2, f3⟩ := frees4 HX1.out
        have hbw : w.heap.size < wr.heap.size := by omega
        go_wp2_with fail
        refine ret_one rfl rfl (sets4 _ _ _ _ HX1.out) ?_
        exact ⟨C, k, by rw [HN.out], ((((HRD.out.set (by omega)).set (by omega)).set (by omega)).set (by omega)).rd, below_sets4 HB.out (Nat.le_refl _)⟩
end Go.Proofs.YteghfinngilfgaaDoor.T
