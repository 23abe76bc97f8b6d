import Derived.Deep.DeepCutAuto
import Derived.Laws.OwnMore
import Derived.OwnWalk
import Derived.Lib.AppendStr
import Derived.Lib.SliceRun
import Derived.Lib.SmallJoins
import Derived.IntWalk
import Derived.Lib.ItoaLen
import Derived.WalkMore
import Derived.Lib.AtoiAllCases
import Derived.Lib.OthersKept
import Derived.Laws.Runes
import Derived.Deep.LoopGhost
import Derived.Deep.RegionLaw
import Derived.Deep.AppendLies
import Derived.Test.YteghfinngilfgaaDoorProg
import Derived.Test.YteghfinngilfgaaDoorMem
import Derived.Test.YteghfinngilfgaaDoorZt
import Derived.WalkKit
import Derived.Outline
import Derived.WalkLawsBesides
import Derived.Deep.QuietTactic
import Derived.BigQuiet
import Derived.Lib.Hide
import Derived.Handy
import Derived.Deep.RegionHeld3
import Derived.Deep.DrawnRows
import Derived.KernelRfl
import Derived.Great.Walk
import Derived.Test.YteghfinngilfgaaDoorOwn
namespace Go.Proofs.YteghfinngilfgaaDoor.T
open Go Go.RowKit Go.Sort Mem Own
set_option maxRecDepth 100000
set_option maxHeartbeats 1000000
set_option linter.unusedVariables false
set_option linter.unusedSimpArgs false

set_option maxHeartbeats 4000000 in
theorem read_any_43 (rest : List UInt8) (s : ByteArray) (d : Nat) (w : World) (hs : s.toList = 43 :: rest) (hd : d ≤ 4) (hsz : s.size ≤ 1000000000000000000) (hT : Tab w) (he : ErrV w) :
    Calls Tryd.prog 25 #[.string s, .int .i64 (d : Int)] w (RAnyP s w) := by
  have HT := Lib.hid hT
  have HE := Lib.hid he
  have HL := Lib.hid (fun (wx : World) => line_any' 43 rest s wx hs (by decide) hsz)
  have hp0 : 0 < s.size := by rw [← toList_len, hs]; simp
  have hg : s[0]'hp0 = 43 := by
    have := ba_get hp0
    rw [hs] at this; simpa using this.symm
  have HI := Lib.hid (fun (wx : World) => (Tryd.strings_IndexByte ⟨#[43, 45, 58, 36, 42]⟩ 43 wx).mono (R' := fun e w' => e = .returned (.int .i64 0) ∧ wx = w') (fun e w' h => ⟨h.1, h.2.symm⟩))
  have hne : s.toList.isEmpty = false := by rw [hs]; rfl
  have HN := Lib.hid (new1 w #[.int .i64 0, .int .i64 0, .string ⟨#[]⟩, .slice none 0 0] 24)
  obtain ⟨x0, x1, x2, x3⟩ := cells4 HN.out.1
  clear hs hT he
  go_enter Tryd.func25, Tryd.ntmps25
  go_upto_region 5 with (go_at_call 33; refine Calls.mono (HI.out _) ?_; rintro e w1 ⟨rfl, rfl⟩)
  go_cut [0, 1, 4, 5, 6, 7] (fun s0 s1 s4 s5 s6 s7 wx => ∃ (l : ByteArray) (a : Nat) (err : Int), s0 = .string s ∧ s1 = .int .i64 (d : Int) ∧ s4 = .pointer (some ⟨w.heap.size, 0, none⟩) ∧ s5 = .int .i64 (a : Int) ∧ s6 = .int .i64 err ∧ s7 = .string l ∧ ((err = 0 ∧ a ≤ s.size ∧ 1 ≤ l.size ∧ l.size ≤ 600) ∨ err = 40 ∨ err = 41) ∧ RowKit.Hid (wx.heap[w.heap.size]? = some (.cells #[.int .i64 0, .int .i64 0, .string ⟨#[]⟩, .slice none 0 0] 24 (0, 0))) ∧ RowKit.Hid (Below w.heap.size w wx))
  case first =>
    go_wp2_with (go_at_call 34; refine Calls.mono (HL.out _) ?_; (rintro e w2 ⟨l, a, err, rfl, hc, hb2⟩))
    go_meet
    exact ⟨l, a, err, rfl, rfl, rfl, rfl, rfl, rfl, hc, Lib.hid (keep_blk hb2 HN.out.1), Lib.hid (HN.out.2.trans (hb2.mono HN.out.2.size))⟩
  case rest =>
    clear x0 x1 x2 x3 HL HI HN
    obtain ⟨l, a, err, rfl, rfl, rfl, rfl, rfl, rfl, hc, HX, HB⟩ := hcut
    obtain ⟨x0, x1, x2, x3⟩ := cells4 HX.out
    obtain ⟨f0, f1, f2, f3⟩ := frees4 HX.out
    rcases hc with ⟨rfl, ha, hl1, hl6⟩ | rfl | rfl
    · -- the line is there
      have hl1' : ¬ (l.size < 1) := by omega
      go_wp2_with fail
      refine ret_reply rfl rfl rfl rfl (sets4 _ _ _ _ HX.out) ?_
      exact ⟨1, 0, _, none, 0, 0, a, 0, rfl, ha, below_sets4 HB.out (Nat.le_refl _)⟩
    · go_wp2_with fail
      refine ret_reply rfl rfl rfl rfl (sets4 _ _ _ _ HX.out) ?_
      exact ⟨0, 0, _, none, 0, 0, 0, 40, rfl, Nat.zero_le _, below_sets4 HB.out (Nat.le_refl _)⟩
    · go_wp2_with fail
      refine ret_reply rfl rfl rfl rfl (sets4 _ _ _ _ HX.out) ?_
      exact ⟨0, 0, _, none, 0, 0, 0, 41, rfl, Nat.zero_le _, below_sets4 HB.out (Nat.le_refl _)⟩
set_option maxHeartbeats 4000000 in
theorem read_any_45 (rest : List UInt8) (s : ByteArray) (d : Nat) (w : World) (hs : s.toList = 45 :: rest) (hd : d ≤ 4) (hsz : s.size ≤ 1000000000000000000) (hT : Tab w) (he : ErrV w) :
    Calls Tryd.prog 25 #[.string s, .int .i64 (d : Int)] w (RAnyP s w) := by
  have HT := Lib.hid hT
  have HE := Lib.hid he
  have HL := Lib.hid (fun (wx : World) => line_any' 45 rest s wx hs (by decide) hsz)
  have hp0 : 0 < s.size := by rw [← toList_len, hs]; simp
  have hg : s[0]'hp0 = 45 := by
    have := ba_get hp0
    rw [hs] at this; simpa using this.symm
  have HI := Lib.hid (fun (wx : World) => (Tryd.strings_IndexByte ⟨#[43, 45, 58, 36, 42]⟩ 45 wx).mono (R' := fun e w' => e = .returned (.int .i64 1) ∧ wx = w') (fun e w' h => ⟨h.1, h.2.symm⟩))
  have hne : s.toList.isEmpty = false := by rw [hs]; rfl
  have HN := Lib.hid (new1 w #[.int .i64 0, .int .i64 0, .string ⟨#[]⟩, .slice none 0 0] 24)
  obtain ⟨x0, x1, x2, x3⟩ := cells4 HN.out.1
  clear hs hT he
  go_enter Tryd.func25, Tryd.ntmps25
  go_upto_region 5 with (go_at_call 33; refine Calls.mono (HI.out _) ?_; rintro e w1 ⟨rfl, rfl⟩)
  go_cut [0, 1, 4, 5, 6, 7] (fun s0 s1 s4 s5 s6 s7 wx => ∃ (l : ByteArray) (a : Nat) (err : Int), s0 = .string s ∧ s1 = .int .i64 (d : Int) ∧ s4 = .pointer (some ⟨w.heap.size, 0, none⟩) ∧ s5 = .int .i64 (a : Int) ∧ s6 = .int .i64 err ∧ s7 = .string l ∧ ((err = 0 ∧ a ≤ s.size ∧ 1 ≤ l.size ∧ l.size ≤ 600) ∨ err = 40 ∨ err = 41) ∧ RowKit.Hid (wx.heap[w.heap.size]? = some (.cells #[.int .i64 0, .int .i64 0, .string ⟨#[]⟩, .slice none 0 0] 24 (0, 0))) ∧ RowKit.Hid (Below w.heap.size w wx))
  case first =>
    go_wp2_with (go_at_call 34; refine Calls.mono (HL.out _) ?_; (rintro e w2 ⟨l, a, err, rfl, hc, hb2⟩))
    go_meet
    exact ⟨l, a, err, rfl, rfl, rfl, rfl, rfl, rfl, hc, Lib.hid (keep_blk hb2 HN.out.1), Lib.hid (HN.out.2.trans (hb2.mono HN.out.2.size))⟩
  case rest =>
    clear x0 x1 x2 x3 HL HI HN
    obtain ⟨l, a, err, rfl, rfl, rfl, rfl, rfl, rfl, hc, HX, HB⟩ := hcut
    obtain ⟨x0, x1, x2, x3⟩ := cells4 HX.out
    obtain ⟨f0, f1, f2, f3⟩ := frees4 HX.out
    rcases hc with ⟨rfl, ha, hl1, hl6⟩ | rfl | rfl
    · -- the line is there
      go_wp2_with (go_at_call 20; refine Calls.mono (wrong_is _ _) ?_; (rintro e w3 ⟨rfl, hb3⟩; have HB3 := Lib.hid (HB.out.trans (hb3.mono HB.out.size)); have HX3 := Lib.hid (keep_blk hb3 HX.out); clear hb3 x0 x1 x2 x3 f0 f1 f2 f3; obtain ⟨x0, x1, x2, x3⟩ := cells4 HX3.out; obtain ⟨f0, f1, f2, f3⟩ := frees4 HX3.out))
      refine ret_reply rfl rfl rfl rfl (sets4 _ _ _ _ HX3.out) ?_
      exact ⟨2, 0, _, none, 0, 0, a, 0, rfl, ha, below_sets4 HB3.out (Nat.le_refl _)⟩
    · go_wp2_with fail
      refine ret_reply rfl rfl rfl rfl (sets4 _ _ _ _ HX.out) ?_
      exact ⟨0, 0, _, none, 0, 0, 0, 40, rfl, Nat.zero_le _, below_sets4 HB.out (Nat.le_refl _)⟩
    · go_wp2_with fail
      refine ret_reply rfl rfl rfl rfl (sets4 _ _ _ _ HX.out) ?_
      exact ⟨0, 0, _, none, 0, 0, 0, 41, rfl, Nat.zero_le _, below_sets4 HB.out (Nat.le_refl _)⟩
set_option maxHeartbeats 4000000 in
theorem read_any_58 (rest : List UInt8) (s : ByteArray) (d : Nat) (w : World) (hs : s.toList = 58 :: rest) (hd : d ≤ 4) (hsz : s.size ≤ 1000000000000000000) (hT : Tab w) (he : ErrV w) :
    Calls Tryd.prog 25 #[.string s, .int .i64 (d : Int)] w (RAnyP s w) := by
  have HT := Lib.hid hT
  have HE := Lib.hid he
  have HL := Lib.hid (fun (wx : World) => line_any' 58 rest s wx hs (by decide) hsz)
  have hp0 : 0 < s.size := by rw [← toList_len, hs]; simp
  have hg : s[0]'hp0 = 58 := by
    have := ba_get hp0
    rw [hs] at this; simpa using this.symm
  have HI := Lib.hid (fun (wx : World) => (Tryd.strings_IndexByte ⟨#[43, 45, 58, 36, 42]⟩ 58 wx).mono (R' := fun e w' => e = .returned (.int .i64 2) ∧ wx = w') (fun e w' h => ⟨h.1, h.2.symm⟩))
  have hne : s.toList.isEmpty = false := by rw [hs]; rfl
  have HN := Lib.hid (new1 w #[.int .i64 0, .int .i64 0, .string ⟨#[]⟩, .slice none 0 0] 24)
  obtain ⟨x0, x1, x2, x3⟩ := cells4 HN.out.1
  clear hs hT he
  go_enter Tryd.func25, Tryd.ntmps25
  go_upto_region 5 with (go_at_call 33; refine Calls.mono (HI.out _) ?_; rintro e w1 ⟨rfl, rfl⟩)
  go_cut [0, 1, 4, 5, 6, 7] (fun s0 s1 s4 s5 s6 s7 wx => ∃ (l : ByteArray) (a : Nat) (err : Int), s0 = .string s ∧ s1 = .int .i64 (d : Int) ∧ s4 = .pointer (some ⟨w.heap.size, 0, none⟩) ∧ s5 = .int .i64 (a : Int) ∧ s6 = .int .i64 err ∧ s7 = .string l ∧ ((err = 0 ∧ a ≤ s.size ∧ 1 ≤ l.size ∧ l.size ≤ 600) ∨ err = 40 ∨ err = 41) ∧ RowKit.Hid (wx.heap[w.heap.size]? = some (.cells #[.int .i64 0, .int .i64 0, .string ⟨#[]⟩, .slice none 0 0] 24 (0, 0))) ∧ RowKit.Hid (Below w.heap.size w wx))
  case first =>
    go_wp2_with (go_at_call 34; refine Calls.mono (HL.out _) ?_; (rintro e w2 ⟨l, a, err, rfl, hc, hb2⟩))
    go_meet
    exact ⟨l, a, err, rfl, rfl, rfl, rfl, rfl, rfl, hc, Lib.hid (keep_blk hb2 HN.out.1), Lib.hid (HN.out.2.trans (hb2.mono HN.out.2.size))⟩
  case rest =>
    clear x0 x1 x2 x3 HL HI HN
    obtain ⟨l, a, err, rfl, rfl, rfl, rfl, rfl, rfl, hc, HX, HB⟩ := hcut
    obtain ⟨x0, x1, x2, x3⟩ := cells4 HX.out
    obtain ⟨f0, f1, f2, f3⟩ := frees4 HX.out
    rcases hc with ⟨rfl, ha, hl1, hl6⟩ | rfl | rfl
    · -- the line is there
      have HNU := Lib.hid (fun (u : ByteArray) (hu : u.size ≤ 600) (wx : World) (hT : Tab wx) (hE : ErrV wx) => number_any' u (-9223372036854775808) 9223372036854775807 wx (by omega) hT hE)
      go_upto_region 15 with fail
      go_cut [0, 1, 4, 5, 6, 8] (fun s0 s1 s4 s5 s6 s8 wx => ∃ n err : Int, s0 = .string s ∧ s1 = .int .i64 (d : Int) ∧ s4 = .pointer (some ⟨w.heap.size, 0, none⟩) ∧ s5 = .int .i64 (a : Int) ∧ s6 = .int .i64 err ∧ s8 = .int .i64 n ∧ ((err = 0 ∧ -9223372036854775808 ≤ n ∧ n ≤ 9223372036854775807) ∨ (err = 41 ∧ n = 0)) ∧ RowKit.Hid (wx.heap[w.heap.size]? = some (.cells #[.int .i64 0, .int .i64 0, .string ⟨#[]⟩, .slice none 0 0] 24 (0, 0))) ∧ RowKit.Hid (Below w.heap.size w wx))
      case first =>
        go_wp2_with (go_at_call 35; refine Calls.mono (HNU.out _ (by simp; omega) _ (HT.out.keep HB.out) (HE.out.keep HB.out)) ?_; (rintro e w3 ⟨n, err, rfl, hn, hb3⟩))
        go_meet
        exact ⟨n, err, rfl, rfl, rfl, rfl, rfl, rfl, hn, Lib.hid (keep_blk hb3 HX.out), Lib.hid (HB.out.trans (hb3.mono HB.out.size))⟩
      case rest =>
        clear x0 x1 x2 x3 f0 f1 f2 f3 HX HB HNU hl1 hl6
        obtain ⟨n, err, rfl, rfl, rfl, rfl, rfl, rfl, hn, HX, HB⟩ := hcut
        obtain ⟨x0, x1, x2, x3⟩ := cells4 HX.out
        obtain ⟨f0, f1, f2, f3⟩ := frees4 HX.out
        rcases hn with ⟨rfl, hn1, hn2⟩ | ⟨rfl, rfl⟩
        all_goals
          go_wp2_with (go_at_call 19; refine Calls.mono (num_is _ _) ?_; (rintro e w4 ⟨rfl, hb4⟩; have HB4 := Lib.hid (HB.out.trans (hb4.mono HB.out.size)); have HX4 := Lib.hid (keep_blk hb4 HX.out); clear hb4 x0 x1 x2 x3 f0 f1 f2 f3; obtain ⟨x0, x1, x2, x3⟩ := cells4 HX4.out; obtain ⟨f0, f1, f2, f3⟩ := frees4 HX4.out))
        · refine ret_reply rfl rfl rfl rfl (sets4 _ _ _ _ (sets4 _ _ _ _ HX4.out)) ?_
          exact ⟨3, n, _, none, 0, 0, a, 0, rfl, ha, below_sets4 (below_sets4 HB4.out (Nat.le_refl _)) (Nat.le_refl _)⟩
        · refine ret_reply rfl rfl rfl rfl (sets4 _ _ _ _ (sets4 _ _ _ _ HX4.out)) ?_
          exact ⟨0, 0, _, none, 0, 0, 0, 41, rfl, Nat.zero_le _, below_sets4 (below_sets4 HB4.out (Nat.le_refl _)) (Nat.le_refl _)⟩
    · go_wp2_with fail
      refine ret_reply rfl rfl rfl rfl (sets4 _ _ _ _ HX.out) ?_
      exact ⟨0, 0, _, none, 0, 0, 0, 40, rfl, Nat.zero_le _, below_sets4 HB.out (Nat.le_refl _)⟩
    · go_wp2_with fail
      refine ret_reply rfl rfl rfl rfl (sets4 _ _ _ _ HX.out) ?_
      exact ⟨0, 0, _, none, 0, 0, 0, 41, rfl, Nat.zero_le _, below_sets4 HB.out (Nat.le_refl _)⟩
set_option maxHeartbeats 4000000 in
theorem read_any_36 (rest : List UInt8) (s : ByteArray) (d : Nat) (w : World) (hs : s.toList = 36 :: rest) (hd : d ≤ 4) (hsz : s.size ≤ 1000000000000000000) (hT : Tab w) (he : ErrV w) :
    Calls Tryd.prog 25 #[.string s, .int .i64 (d : Int)] w (RAnyP s w) := by
  have HT := Lib.hid hT
  have HE := Lib.hid he
  have HL := Lib.hid (fun (wx : World) => line_any' 36 rest s wx hs (by decide) hsz)
  have hp0 : 0 < s.size := by rw [← toList_len, hs]; simp
  have hg : s[0]'hp0 = 36 := by
    have := ba_get hp0
    rw [hs] at this; simpa using this.symm
  have HI := Lib.hid (fun (wx : World) => (Tryd.strings_IndexByte ⟨#[43, 45, 58, 36, 42]⟩ 36 wx).mono (R' := fun e w' => e = .returned (.int .i64 3) ∧ wx = w') (fun e w' h => ⟨h.1, h.2.symm⟩))
  have hne : s.toList.isEmpty = false := by rw [hs]; rfl
  have HN := Lib.hid (new1 w #[.int .i64 0, .int .i64 0, .string ⟨#[]⟩, .slice none 0 0] 24)
  obtain ⟨x0, x1, x2, x3⟩ := cells4 HN.out.1
  clear hs hT he
  go_enter Tryd.func25, Tryd.ntmps25
  go_upto_region 5 with (go_at_call 33; refine Calls.mono (HI.out _) ?_; rintro e w1 ⟨rfl, rfl⟩)
  go_cut [0, 1, 4, 5, 6, 7] (fun s0 s1 s4 s5 s6 s7 wx => ∃ (l : ByteArray) (a : Nat) (err : Int), s0 = .string s ∧ s1 = .int .i64 (d : Int) ∧ s4 = .pointer (some ⟨w.heap.size, 0, none⟩) ∧ s5 = .int .i64 (a : Int) ∧ s6 = .int .i64 err ∧ s7 = .string l ∧ ((err = 0 ∧ a ≤ s.size ∧ 1 ≤ l.size ∧ l.size ≤ 600) ∨ err = 40 ∨ err = 41) ∧ RowKit.Hid (wx.heap[w.heap.size]? = some (.cells #[.int .i64 0, .int .i64 0, .string ⟨#[]⟩, .slice none 0 0] 24 (0, 0))) ∧ RowKit.Hid (Below w.heap.size w wx))
  case first =>
    go_wp2_with (go_at_call 34; refine Calls.mono (HL.out _) ?_; (rintro e w2 ⟨l, a, err, rfl, hc, hb2⟩))
    go_meet
    exact ⟨l, a, err, rfl, rfl, rfl, rfl, rfl, rfl, hc, Lib.hid (keep_blk hb2 HN.out.1), Lib.hid (HN.out.2.trans (hb2.mono HN.out.2.size))⟩
  case rest =>
    clear x0 x1 x2 x3 HL HI HN
    obtain ⟨l, a, err, rfl, rfl, rfl, rfl, rfl, rfl, hc, HX, HB⟩ := hcut
    obtain ⟨x0, x1, x2, x3⟩ := cells4 HX.out
    obtain ⟨f0, f1, f2, f3⟩ := frees4 HX.out
    rcases hc with ⟨rfl, ha, hl1, hl6⟩ | rfl | rfl
    · -- the line is there
      have HNU := Lib.hid (fun (u : ByteArray) (hu : u.size ≤ 600) (wx : World) (hT : Tab wx) (hE : ErrV wx) => number_any' u (-1) 65536 wx (by omega) hT hE)
      go_upto_region 18 with fail
      go_cut [0, 1, 4, 5, 6, 8] (fun s0 s1 s4 s5 s6 s8 wx => ∃ n err : Int, s0 = .string s ∧ s1 = .int .i64 (d : Int) ∧ s4 = .pointer (some ⟨w.heap.size, 0, none⟩) ∧ s5 = .int .i64 (a : Int) ∧ s6 = .int .i64 err ∧ s8 = .int .i64 n ∧ ((err = 0 ∧ -1 ≤ n ∧ n ≤ 65536) ∨ (err = 41 ∧ n = 0)) ∧ RowKit.Hid (wx.heap[w.heap.size]? = some (.cells #[.int .i64 0, .int .i64 0, .string ⟨#[]⟩, .slice none 0 0] 24 (0, 0))) ∧ RowKit.Hid (Below w.heap.size w wx))
      case first =>
        go_wp2_with (go_at_call 35; refine Calls.mono (HNU.out _ (by simp; omega) _ (HT.out.keep HB.out) (HE.out.keep HB.out)) ?_; (rintro e w3 ⟨n, err, rfl, hn, hb3⟩))
        go_meet
        exact ⟨n, err, rfl, rfl, rfl, rfl, rfl, rfl, hn, Lib.hid (keep_blk hb3 HX.out), Lib.hid (HB.out.trans (hb3.mono HB.out.size))⟩
      case rest =>
        clear x0 x1 x2 x3 f0 f1 f2 f3 HX HB HNU hl1 hl6
        obtain ⟨n, err, rfl, rfl, rfl, rfl, rfl, rfl, hn, HX, HB⟩ := hcut
        obtain ⟨x0, x1, x2, x3⟩ := cells4 HX.out
        obtain ⟨f0, f1, f2, f3⟩ := frees4 HX.out
        rcases hn with ⟨rfl, hn1, hn2⟩ | ⟨rfl, rfl⟩
        · by_cases hn0 : n = -1
          · subst hn0
            go_wp2_with fail
            refine ret_reply rfl rfl rfl rfl (sets4 _ _ _ _ (sets4 _ _ _ _ HX.out)) ?_
            exact ⟨5, 0, _, none, 0, 0, a, 0, rfl, ha, below_sets4 (below_sets4 HB.out (Nat.le_refl _)) (Nat.le_refl _)⟩
          · obtain ⟨m, rfl⟩ : ∃ m : Nat, n = (m : Int) := ⟨n.toNat, by omega⟩
            have hm : m ≤ 65536 := by omega
            obtain ⟨u, hU⟩ : ∃ u, s.extract a s.size = u := ⟨_, rfl⟩
            have hus : u.size = s.size - a := by rw [← hU]; simp
            have HBK := Lib.hid (fun (wx : World) => bulk_any m u wx (by omega) (by omega))
            have hm0 : decide ((0 : Int) ≤ (m : Int)) = true := by simp
            clear hn0 hn1 hn2
            go_upto_region 22 with fail
            go_cut [4, 5, 6, 8] (fun s4 s5 s6 s8 wx => ∃ (t : ByteArray) (err : Int), s4 = .pointer (some ⟨w.heap.size, 0, none⟩) ∧ s5 = .int .i64 (a : Int) ∧ s6 = .int .i64 err ∧ s8 = .int .i64 (m : Int) ∧ ((err = 0 ∧ m + 2 ≤ u.size) ∨ err = 40 ∨ err = 41) ∧ RowKit.Hid (wx.heap[w.heap.size]? = some (.cells #[.int .i64 4, .int .i64 0, .string t, .slice none 0 0] 24 (0, 0))) ∧ RowKit.Hid (Below w.heap.size w wx))
            case first =>
              go_wp2_with (go_at_call 36; (try rw [hU]); have HS6 := Lib.hid (show Below w.heap.size w (World.setCell _ ⟨w.heap.size, 0, none⟩ (.int .i64 4)) from Below.setCell (below_sets4 HB.out (Nat.le_refl _) (u0 := .int .i64 5) (u1 := .int .i64 0) (u2 := .string ⟨#[]⟩) (u3 := .slice none 0 0)) (Nat.le_refl _) _); refine Calls.mono (HBK.out _) ?_; (rintro e w6 ⟨t, err, rfl, hc6, hb6⟩; have HX6 := Lib.hid (keep_blk hb6 (set_0 (.int .i64 4) (sets4 (.int .i64 5) (.int .i64 0) (.string ⟨#[]⟩) (.slice none 0 0) HX.out))); have HB6 := Lib.hid (HS6.out.trans (hb6.mono HS6.out.size)); clear hb6 x0 x1 x2 x3 f0 f1 f2 f3; obtain ⟨x0, x1, x2, x3⟩ := cells4 HX6.out; obtain ⟨f0, f1, f2, f3⟩ := frees4 HX6.out))
              go_meet
              exact ⟨t, err, rfl, rfl, rfl, rfl, hc6, Lib.hid (set_2 _ HX6.out), Lib.hid (HB6.out.setCell (Nat.le_refl _) _)⟩
            case rest =>
              clear x0 x1 x2 x3 f0 f1 f2 f3 HX HB HBK
              obtain ⟨t, err, rfl, rfl, rfl, rfl, hc6, HX, HB⟩ := hcut
              obtain ⟨x0, x1, x2, x3⟩ := cells4 HX.out
              obtain ⟨f0, f1, f2, f3⟩ := frees4 HX.out
              rcases hc6 with ⟨rfl, hmu⟩ | rfl | rfl
              · go_wp2_with fail
                refine ret_reply rfl rfl rfl rfl (sets4 _ _ _ _ HX.out) ?_
                exact ⟨4, 0, t, none, 0, 0, a + (m + 2), 0, by simp, by omega, below_sets4 HB.out (Nat.le_refl _)⟩
              · go_wp2_with fail
                refine ret_reply rfl rfl rfl rfl (sets4 _ _ _ _ HX.out) ?_
                exact ⟨0, 0, _, none, 0, 0, 0, 40, rfl, Nat.zero_le _, below_sets4 HB.out (Nat.le_refl _)⟩
              · go_wp2_with fail
                refine ret_reply rfl rfl rfl rfl (sets4 _ _ _ _ HX.out) ?_
                exact ⟨0, 0, _, none, 0, 0, 0, 41, rfl, Nat.zero_le _, below_sets4 HB.out (Nat.le_refl _)⟩
        · go_wp2_with fail
          refine ret_reply rfl rfl rfl rfl (sets4 _ _ _ _ (sets4 _ _ _ _ HX.out)) ?_
          exact ⟨0, 0, _, none, 0, 0, 0, 41, rfl, Nat.zero_le _, below_sets4 (below_sets4 HB.out (Nat.le_refl _)) (Nat.le_refl _)⟩
    · go_wp2_with fail
      refine ret_reply rfl rfl rfl rfl (sets4 _ _ _ _ HX.out) ?_
      exact ⟨0, 0, _, none, 0, 0, 0, 40, rfl, Nat.zero_le _, below_sets4 HB.out (Nat.le_refl _)⟩
    · go_wp2_with fail
      refine ret_reply rfl rfl rfl rfl (sets4 _ _ _ _ HX.out) ?_
      exact ⟨0, 0, _, none, 0, 0, 0, 41, rfl, Nat.zero_le _, below_sets4 HB.out (Nat.le_refl _)⟩
set_option maxHeartbeats 4000000 in
theorem read_any_42 (rest : List UInt8) (s : ByteArray) (d : Nat) (w : World) (hs : s.toList = 42 :: rest) (hd : d ≤ 4) (hsz : s.size ≤ 1000000000000000000) (hT : Tab w) (he : ErrV w) (ih : ∀ (u : ByteArray) (wx : World), d < 4 → u.size ≤ 1000000000000000000 → Tab wx → ErrV wx → Calls Tryd.prog 25 #[.string u, .int .i64 ((d : Int) + 1)] wx (RAnyP u wx)) :
    Calls Tryd.prog 25 #[.string s, .int .i64 (d : Int)] w (RAnyP s w) := by
  have HT := Lib.hid hT
  have HE := Lib.hid he
  have HIH := Lib.hid ih
  have HL := Lib.hid (fun (wx : World) => line_any' 42 rest s wx hs (by decide) hsz)
  have hp0 : 0 < s.size := by rw [← toList_len, hs]; simp
  have hg : s[0]'hp0 = 42 := by
    have := ba_get hp0
    rw [hs] at this; simpa using this.symm
  have HI := Lib.hid (fun (wx : World) => (Tryd.strings_IndexByte ⟨#[43, 45, 58, 36, 42]⟩ 42 wx).mono (R' := fun e w' => e = .returned (.int .i64 4) ∧ wx = w') (fun e w' h => ⟨h.1, h.2.symm⟩))
  have hne : s.toList.isEmpty = false := by rw [hs]; rfl
  have HN := Lib.hid (new1 w #[.int .i64 0, .int .i64 0, .string ⟨#[]⟩, .slice none 0 0] 24)
  obtain ⟨x0, x1, x2, x3⟩ := cells4 HN.out.1
  clear hs hT he ih
  go_enter Tryd.func25, Tryd.ntmps25
  go_upto_region 5 with (go_at_call 33; refine Calls.mono (HI.out _) ?_; rintro e w1 ⟨rfl, rfl⟩)
  go_cut [0, 1, 4, 5, 6, 7] (fun s0 s1 s4 s5 s6 s7 wx => ∃ (l : ByteArray) (a : Nat) (err : Int), s0 = .string s ∧ s1 = .int .i64 (d : Int) ∧ s4 = .pointer (some ⟨w.heap.size, 0, none⟩) ∧ s5 = .int .i64 (a : Int) ∧ s6 = .int .i64 err ∧ s7 = .string l ∧ ((err = 0 ∧ a ≤ s.size ∧ 1 ≤ l.size ∧ l.size ≤ 600) ∨ err = 40 ∨ err = 41) ∧ RowKit.Hid (wx.heap[w.heap.size]? = some (.cells #[.int .i64 0, .int .i64 0, .string ⟨#[]⟩, .slice none 0 0] 24 (0, 0))) ∧ RowKit.Hid (Below w.heap.size w wx))
  case first =>
    go_wp2_with (go_at_call 34; refine Calls.mono (HL.out _) ?_; (rintro e w2 ⟨l, a, err, rfl, hc, hb2⟩))
    go_meet
    exact ⟨l, a, err, rfl, rfl, rfl, rfl, rfl, rfl, hc, Lib.hid (keep_blk hb2 HN.out.1), Lib.hid (HN.out.2.trans (hb2.mono HN.out.2.size))⟩
  case rest =>
    clear x0 x1 x2 x3 HL HI HN
    obtain ⟨l, a, err, rfl, rfl, rfl, rfl, rfl, rfl, hc, HX, HB⟩ := hcut
    obtain ⟨x0, x1, x2, x3⟩ := cells4 HX.out
    obtain ⟨f0, f1, f2, f3⟩ := frees4 HX.out
    rcases hc with ⟨rfl, ha, hl1, hl6⟩ | rfl | rfl
    · -- the line is there
      have HNU := Lib.hid (fun (u : ByteArray) (hu : u.size ≤ 600) (wx : World) (hT : Tab wx) (hE : ErrV wx) => number_any' u (0) 1024 wx (by omega) hT hE)
      go_upto_region 25 with fail
      go_cut [0, 1, 4, 5, 6, 8] (fun s0 s1 s4 s5 s6 s8 wx => ∃ n err : Int, s0 = .string s ∧ s1 = .int .i64 (d : Int) ∧ s4 = .pointer (some ⟨w.heap.size, 0, none⟩) ∧ s5 = .int .i64 (a : Int) ∧ s6 = .int .i64 err ∧ s8 = .int .i64 n ∧ ((err = 0 ∧ 0 ≤ n ∧ n ≤ 1024) ∨ (err = 41 ∧ n = 0)) ∧ RowKit.Hid (wx.heap[w.heap.size]? = some (.cells #[.int .i64 0, .int .i64 0, .string ⟨#[]⟩, .slice none 0 0] 24 (0, 0))) ∧ RowKit.Hid (Below w.heap.size w wx))
      case first =>
        go_wp2_with (go_at_call 35; refine Calls.mono (HNU.out _ (by simp; omega) _ (HT.out.keep HB.out) (HE.out.keep HB.out)) ?_; (rintro e w3 ⟨n, err, rfl, hn, hb3⟩))
        go_meet
        exact ⟨n, err, rfl, rfl, rfl, rfl, rfl, rfl, hn, Lib.hid (keep_blk hb3 HX.out), Lib.hid (HB.out.trans (hb3.mono HB.out.size))⟩
      case rest =>
        clear x0 x1 x2 x3 f0 f1 f2 f3 HX HB HNU hl1 hl6
        obtain ⟨n, err, rfl, rfl, rfl, rfl, rfl, rfl, hn, HX, HB⟩ := hcut
        obtain ⟨x0, x1, x2, x3⟩ := cells4 HX.out
        obtain ⟨f0, f1, f2, f3⟩ := frees4 HX.out
        rcases hn with ⟨rfl, hn1, hn2⟩ | ⟨rfl, rfl⟩
        · obtain ⟨m, rfl⟩ : ∃ m : Nat, n = (m : Int) := ⟨n.toNat, by omega⟩
          have hm : m ≤ 1024 := by omega
          by_cases h4 : d = 4
          · subst h4
            go_wp2_with fail
            refine ret_reply rfl rfl rfl rfl (sets4 _ _ _ _ HX.out) ?_
            exact ⟨0, 0, _, none, 0, 0, 0, 41, rfl, Nat.zero_le _, below_sets4 HB.out (Nat.le_refl _)⟩
          · have h4b : ((d : Int) == 4) = false := by simp; omega
            have hd3 : d < 4 := by omega
            obtain ⟨u, hU⟩ : ∃ u, s.extract a s.size = u := ⟨_, rfl⟩
            have hus : u.size = s.size - a := by rw [← hU]; simp
            have HLS := Lib.hid (fun (wx : World) (hT : Tab wx) (hE : ErrV wx) => list_any m d u wx hm hd3 (by omega) hT hE (fun u' wx' h1 h2 h3 => HIH.out u' wx' hd3 h1 h2 h3))
            clear HIH hn1 hn2
            go_upto_region 31 with fail
            go_cut [4, 5, 6, 9] (fun s4 s5 s6 s9 wx => ∃ (A : Option Addr) (q c b : Nat) (err : Int), s4 = .pointer (some ⟨w.heap.size, 0, none⟩) ∧ s5 = .int .i64 (a : Int) ∧ s6 = .int .i64 err ∧ s9 = .int .i64 (b : Int) ∧ b ≤ u.size ∧ RowKit.Hid (wx.heap[w.heap.size]? = some (.cells #[.int .i64 6, .int .i64 0, .string ⟨#[]⟩, .slice A q c] 24 (0, 0))) ∧ RowKit.Hid (Below w.heap.size w wx))
            case first =>
              go_wp2_with (go_at_call 37; (try rw [hU]); have HS6 := Lib.hid (show Below w.heap.size w (World.setCell _ ⟨w.heap.size, 0, none⟩ (.int .i64 6)) from Below.setCell HB.out (Nat.le_refl _) _); refine Calls.mono (HLS.out _ (HT.out.keep HS6.out) (HE.out.keep HS6.out)) ?_; (rintro e w6 ⟨A, q, c, b, err, rfl, hb, hb6⟩; have HX6 := Lib.hid (keep_blk hb6 (set_0 (.int .i64 6) HX.out)); have HB6 := Lib.hid (HS6.out.trans (hb6.mono HS6.out.size)); clear hb6 x0 x1 x2 x3 f0 f1 f2 f3; obtain ⟨x0, x1, x2, x3⟩ := cells4 HX6.out; obtain ⟨f0, f1, f2, f3⟩ := frees4 HX6.out))
              go_meet
              exact ⟨A, q, c, b, err, rfl, rfl, rfl, rfl, hb, Lib.hid (set_3 _ HX6.out), Lib.hid (HB6.out.setCell (Nat.le_refl _) _)⟩
            case rest =>
              clear x0 x1 x2 x3 f0 f1 f2 f3 HX HB HLS
              obtain ⟨A, q, c, b, err, rfl, rfl, rfl, rfl, hb, HX, HB⟩ := hcut
              obtain ⟨x0, x1, x2, x3⟩ := cells4 HX.out
              obtain ⟨f0, f1, f2, f3⟩ := frees4 HX.out
              by_cases herr : err = 0
              · subst herr
                go_wp2_with fail
                refine ret_reply rfl rfl rfl rfl (sets4 _ _ _ _ HX.out) ?_
                exact ⟨6, 0, ⟨#[]⟩, A, q, c, a + b, 0, by simp, by omega, below_sets4 HB.out (Nat.le_refl _)⟩
              · have herr2 : (err != 0) = true := by simpa using herr
                go_wp2_with fail
                refine ret_reply rfl rfl rfl rfl (sets4 _ _ _ _ HX.out) ?_
                exact ⟨0, 0, _, none, 0, 0, 0, err, rfl, Nat.zero_le _, below_sets4 HB.out (Nat.le_refl _)⟩
        · go_wp2_with fail
          refine ret_reply rfl rfl rfl rfl (sets4 _ _ _ _ HX.out) ?_
          exact ⟨0, 0, _, none, 0, 0, 0, 41, rfl, Nat.zero_le _, below_sets4 HB.out (Nat.le_refl _)⟩
    · go_wp2_with fail
      refine ret_reply rfl rfl rfl rfl (sets4 _ _ _ _ HX.out) ?_
      exact ⟨0, 0, _, none, 0, 0, 0, 40, rfl, Nat.zero_le _, below_sets4 HB.out (Nat.le_refl _)⟩
    · go_wp2_with fail
      refine ret_reply rfl rfl rfl rfl (sets4 _ _ _ _ HX.out) ?_
      exact ⟨0, 0, _, none, 0, 0, 0, 41, rfl, Nat.zero_le _, below_sets4 HB.out (Nat.le_refl _)⟩
end Go.Proofs.YteghfinngilfgaaDoor.T
