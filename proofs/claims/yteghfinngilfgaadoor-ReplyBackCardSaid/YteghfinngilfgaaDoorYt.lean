import Derived.Deep.DeepCutAuto
import Derived.Laws.OwnMore
import Derived.OwnWalk
import Derived.Lib.AppendStr
import Derived.Lib.SliceRun
import Derived.Lib.SmallJoins
import Derived.IntWalk
import Derived.Lib.ItoaLen
import Derived.WalkMore
import Derived.Lib.AtoiAllCases
import Derived.Lib.OthersKept
import Derived.Laws.Runes
import Derived.Deep.LoopGhost
import Derived.Deep.RegionLaw
import Derived.Deep.AppendLies
import Derived.Test.YteghfinngilfgaaDoorProg
import Derived.Test.YteghfinngilfgaaDoorMem
import Derived.Test.YteghfinngilfgaaDoorYs
import Derived.WalkKit
import Derived.Outline
import Derived.WalkLawsBesides
import Derived.Deep.QuietTactic
import Derived.BigQuiet
import Derived.Lib.Hide
import Derived.Handy
import Derived.Deep.RegionHeld3
import Derived.Deep.DrawnRows
import Derived.KernelRfl
import Derived.Great.Walk
import Derived.Test.YteghfinngilfgaaDoorOwn
namespace Go.Proofs.YteghfinngilfgaaDoor.T
open Go Go.RowKit Go.Sort Mem Own
set_option maxRecDepth 100000
set_option maxHeartbeats 1000000
set_option linter.unusedVariables false
set_option linter.unusedSimpArgs false

/-- reply.read of a number. -/
theorem read_3 (z : Int) (s : ByteArray) (d : Int) (more : List UInt8) (w : World) (h0 : -9223372036854775808 ≤ z) (h1 : z ≤ 9223372036854775807) (hs : s.toList = 58 :: (Lib.itoa z ++ crlf) ++ more) (hsz : s.size ≤ 9223372036854775807) (hT : Tab w) :
    Calls Tryd.prog 25 #[.string s, .int .i64 d] w fun e w' => e = .returned (.tuple #[tV 3 z ⟨#[]⟩ none 0 0, .int .i64 (((Lib.itoa z).length : Int) + 3), .int .i64 0]) ∧ Below w.heap.size w w' := by
  have hqs := dec_size (z) h0 h1
  have hdt : (dec (z)).toList = Lib.itoa (z) := by rw [ByteArray.toList_eq]; rfl
  have hlt : (Lib.itoa (z)).length = (dec (z)).size := by rw [← hdt, toList_len]
  obtain ⟨q, hq⟩ : ∃ q, q = dec (z) := ⟨_, rfl⟩
  obtain ⟨L, hL⟩ : ∃ L : List UInt8, L = 58 :: q.toList := ⟨_, rfl⟩
  have hql : q.toList = Lib.itoa (z) := by rw [hq, hdt]
  have hLl : L.length = q.size + 1 := by rw [hL]; simp [toList_len]
  have HL := Lib.hid (fun wx => line_ok L s (more) wx (by rw [hs, hL, hql]; simp [crlf]) (by intro b hb; rw [hL, hql] at hb; rcases List.mem_cons.1 hb with rfl | h; decide; exact itoa_plain _ b h) (by rw [hq] at hLl; omega) hsz)
  have hp0 : 0 < s.size := by rw [← toList_len, hs]; simp
  have hg : s[0]'hp0 = 58 := by
    have := ba_get hp0
    rw [hs] at this; simpa using this.symm
  have hx : (⟨L.toArray⟩ : ByteArray).extract 1 (q.size + 1) = q := by rw [hL]; exact tail_ext 58 q
  have hLs : (⟨L.toArray⟩ : ByteArray).size = q.size + 1 := by show L.toArray.size = _; simp [hLl]
  have HI := Lib.hid (fun (wx : World) => (Tryd.strings_IndexByte ⟨#[43, 45, 58, 36, 42]⟩ 58 wx).mono (R' := fun e w' => e = .returned (.int .i64 2) ∧ wx = w') (fun e w' h => ⟨h.1, h.2.symm⟩))
  have HN := Lib.hid (new1 w #[.int .i64 0, .int .i64 0, .string ⟨#[]⟩, .slice none 0 0] 24)
  have hne : s.toList.isEmpty = false := by rw [hs]; rfl
  obtain ⟨x0, x1, x2, x3⟩ := cells4 HN.out.1
  have HT := Lib.hid hT
  have HNO := Lib.hid (show ∀ wx, Tab wx → Calls Tryd.prog 35 #[.string q, .int .i64 (-9223372036854775808), .int .i64 9223372036854775807] wx fun e w' => e = .returned (.tuple #[.int .i64 (z), .int .i64 0]) ∧ Below wx.heap.size wx w' from fun wx hx => by rw [hq]; exact number_ok (z) (-9223372036854775808) 9223372036854775807 wx h0 h1 (by omega) (by omega) hx)
  have hln : ((Lib.itoa z).length : Int) = (q.size : Int) := by rw [← hql, toList_len]
  rw [hln]
  clear hs hL hql hq hT hdt hlt hqs hln
  go_enter Tryd.func25, Tryd.ntmps25
  go_wp2_with (first
    | (go_at_call 33; refine Calls.mono (HI.out _) ?_; rintro e w1 ⟨rfl, rfl⟩)
    | (go_at_call 35; refine Calls.mono (HNO.out _ (HT.out.keep HB2.out)) ?_; (rintro e w3 ⟨rfl, hb3⟩; have HB3 := Lib.hid (HB2.out.trans (hb3.mono HB2.out.size)); have HX3 := Lib.hid (keep_blk hb3 HX2.out); clear hb3 x0 x1 x2 x3 f0 f1 f2 f3; obtain ⟨x0, x1, x2, x3⟩ := cells4 HX3.out; obtain ⟨f0, f1, f2, f3⟩ := frees4 HX3.out))
    | (go_at_call 34; refine Calls.mono (HL.out _) ?_; (rintro e w2 ⟨rfl, hb2⟩; have HB2 := Lib.hid (HN.out.2.trans (hb2.mono HN.out.2.size)); have HX2 := Lib.hid (keep_blk hb2 HN.out.1); clear hb2 x0 x1 x2 x3; obtain ⟨x0, x1, x2, x3⟩ := cells4 HX2.out; obtain ⟨f0, f1, f2, f3⟩ := frees4 HX2.out))
    | (go_at_call 19; refine Calls.mono (num_is z _) ?_; (rintro e w4 ⟨rfl, hb4⟩; have HB4 := Lib.hid (HB3.out.trans (hb4.mono HB3.out.size)); have HX4 := Lib.hid (keep_blk hb4 HX3.out); clear hb4 x0 x1 x2 x3 f0 f1 f2 f3; obtain ⟨x0, x1, x2, x3⟩ := cells4 HX4.out; obtain ⟨f0, f1, f2, f3⟩ := frees4 HX4.out)))
  refine ret_reply rfl rfl rfl rfl (sets4 _ _ _ _ (sets4 _ _ _ _ HX4.out)) ?_
  exact ⟨rfl, below_sets4 (below_sets4 HB4.out (Nat.le_refl _)) (Nat.le_refl _)⟩
/-- reply.read of the text that is none. -/
theorem read_5 (s : ByteArray) (d : Int) (more : List UInt8) (w : World) (hs : s.toList = [36, 45, 49, 13, 10] ++ more) (hsz : s.size ≤ 9223372036854775807) (hT : Tab w) :
    Calls Tryd.prog 25 #[.string s, .int .i64 d] w fun e w' => e = .returned (.tuple #[tV 5 0 ⟨#[]⟩ none 0 0, .int .i64 5, .int .i64 0]) ∧ Below w.heap.size w w' := by
  have h0 : (-9223372036854775808 : Int) ≤ -1 := by omega
  have h1 : (-1 : Int) ≤ 9223372036854775807 := by omega
  have him : Lib.itoa (-1) = [45, 49] := by first | (unfold Lib.itoa; rw [Lib.decDigits]; simp) | kernel_rfl
  replace hs : s.toList = 36 :: (Lib.itoa (-1) ++ crlf) ++ more := by rw [hs, him]; rfl
  have hqs := dec_size (-1) h0 h1
  have hdt : (dec (-1)).toList = Lib.itoa (-1) := by rw [ByteArray.toList_eq]; rfl
  have hlt : (Lib.itoa (-1)).length = (dec (-1)).size := by rw [← hdt, toList_len]
  obtain ⟨q, hq⟩ : ∃ q, q = dec (-1) := ⟨_, rfl⟩
  obtain ⟨L, hL⟩ : ∃ L : List UInt8, L = 36 :: q.toList := ⟨_, rfl⟩
  have hql : q.toList = Lib.itoa (-1) := by rw [hq, hdt]
  have hLl : L.length = q.size + 1 := by rw [hL]; simp [toList_len]
  have HL := Lib.hid (fun wx => line_ok L s (more) wx (by rw [hs, hL, hql]; simp [crlf]) (by intro b hb; rw [hL, hql] at hb; rcases List.mem_cons.1 hb with rfl | h; decide; exact itoa_plain _ b h) (by rw [hq] at hLl; omega) hsz)
  have hp0 : 0 < s.size := by rw [← toList_len, hs]; simp
  have hg : s[0]'hp0 = 36 := by
    have := ba_get hp0
    rw [hs] at this; simpa using this.symm
  have hx : (⟨L.toArray⟩ : ByteArray).extract 1 (q.size + 1) = q := by rw [hL]; exact tail_ext 36 q
  have hLs : (⟨L.toArray⟩ : ByteArray).size = q.size + 1 := by show L.toArray.size = _; simp [hLl]
  have HI := Lib.hid (fun (wx : World) => (Tryd.strings_IndexByte ⟨#[43, 45, 58, 36, 42]⟩ 36 wx).mono (R' := fun e w' => e = .returned (.int .i64 3) ∧ wx = w') (fun e w' h => ⟨h.1, h.2.symm⟩))
  have HN := Lib.hid (new1 w #[.int .i64 0, .int .i64 0, .string ⟨#[]⟩, .slice none 0 0] 24)
  have hne : s.toList.isEmpty = false := by rw [hs]; rfl
  obtain ⟨x0, x1, x2, x3⟩ := cells4 HN.out.1
  have HT := Lib.hid hT
  have HNO := Lib.hid (show ∀ wx, Tab wx → Calls Tryd.prog 35 #[.string q, .int .i64 (-1), .int .i64 65536] wx fun e w' => e = .returned (.tuple #[.int .i64 (-1), .int .i64 0]) ∧ Below wx.heap.size wx w' from fun wx hx => by rw [hq]; exact number_ok (-1) (-1) 65536 wx h0 h1 (by omega) (by omega) hx)
  have hln : q.size = 2 := by rw [← toList_len, hql, him]; rfl
  rw [hln] at hx hLs hLl
  clear hs hL hql hq hT hdt hlt hqs hln him
  go_enter Tryd.func25, Tryd.ntmps25
  go_wp2_with (first
    | (go_at_call 33; refine Calls.mono (HI.out _) ?_; rintro e w1 ⟨rfl, rfl⟩)
    | (go_at_call 35; refine Calls.mono (HNO.out _ (HT.out.keep HB2.out)) ?_; (rintro e w3 ⟨rfl, hb3⟩; have HB3 := Lib.hid (HB2.out.trans (hb3.mono HB2.out.size)); have HX3 := Lib.hid (keep_blk hb3 HX2.out); clear hb3 x0 x1 x2 x3 f0 f1 f2 f3; obtain ⟨x0, x1, x2, x3⟩ := cells4 HX3.out; obtain ⟨f0, f1, f2, f3⟩ := frees4 HX3.out))
    | (go_at_call 34; refine Calls.mono (HL.out _) ?_; (rintro e w2 ⟨rfl, hb2⟩; have HB2 := Lib.hid (HN.out.2.trans (hb2.mono HN.out.2.size)); have HX2 := Lib.hid (keep_blk hb2 HN.out.1); clear hb2 x0 x1 x2 x3; obtain ⟨x0, x1, x2, x3⟩ := cells4 HX2.out; obtain ⟨f0, f1, f2, f3⟩ := frees4 HX2.out)))
  refine ret_reply rfl rfl rfl rfl (sets4 _ _ _ _ (sets4 _ _ _ _ HX3.out)) ?_
  exact ⟨rfl, below_sets4 (below_sets4 HB3.out (Nat.le_refl _)) (Nat.le_refl _)⟩
end Go.Proofs.YteghfinngilfgaaDoor.T
