import Derived.Deep.DeepCutAuto
import Derived.Laws.OwnMore
import Derived.OwnWalk
import Derived.Lib.AppendStr
import Derived.Lib.SliceRun
import Derived.Lib.SmallJoins
import Derived.IntWalk
import Derived.Lib.ItoaLen
import Derived.WalkMore
import Derived.Lib.AtoiAllCases
import Derived.Lib.OthersKept
import Derived.Laws.Runes
import Derived.Deep.LoopGhost
import Derived.Deep.RegionLaw
import Derived.Deep.AppendLies
import Derived.Test.YteghfinngilfgaaDoorProg
import Derived.Test.YteghfinngilfgaaDoorMem
import Derived.Test.YteghfinngilfgaaDoorYq
import Derived.Test.YteghfinngilfgaaDoorYr
import Derived.WalkKit
import Derived.Outline
import Derived.WalkLawsBesides
import Derived.Deep.QuietTactic
import Derived.BigQuiet
import Derived.Lib.Hide
import Derived.Handy
import Derived.Deep.RegionHeld3
import Derived.Deep.DrawnRows
import Derived.KernelRfl
import Derived.Great.Walk
import Derived.Test.YteghfinngilfgaaDoorOwn
namespace Go.Proofs.YteghfinngilfgaaDoor.T
open Go Go.RowKit Go.Sort Mem Own
set_option maxRecDepth 100000
set_option maxHeartbeats 1000000
set_option linter.unusedVariables false
set_option linter.unusedSimpArgs false

theorem li_of (t : ByteArray) : (⟨t.toList.toArray⟩ : ByteArray) = t := by apply ba_list; rw [ByteArray.toList_eq]
theorem tail_ext (b : UInt8) (t : ByteArray) : (⟨(b :: t.toList).toArray⟩ : ByteArray).extract 1 (t.size + 1) = t := by
  apply ba_list
  rw [ByteArray.toList_eq, ByteArray.data_extract, Array.toList_extract, List.extract_eq_take_drop]
  have hl : t.toList.length = t.size := toList_len t
  show List.take (t.size + 1 - 1) (List.drop 1 (b :: t.toList)) = t.toList
  rw [List.drop_one, List.tail_cons, Nat.add_sub_cancel, ← hl, List.take_length]
/-- The return of reply.read and reply.Decode. -/
theorem ret_reply {fn : Func} {p q r : Nat} {tmps : Array Value} {w : World} {R : Ending → World → Prop} {b T : Nat} {v0 v1 v2 v3 u1 u2 : Value} (hfn : fn.results = #[.cell p 24, .tmp q, .tmp r])
    (h4 : tmps[p]?.getD undef = .pointer (some ⟨b, 0, none⟩)) (h5 : tmps[q]?.getD undef = u1) (h6 : tmps[r]?.getD undef = u2) (hb : w.heap[b]? = some (.cells #[v0, v1, v2, v3] T (0, 0)))
    (hR : R (.returned (.tuple #[.agg #[v0, v1, v2, v3], u1, u2])) w) : bodyPost Tryd.prog fn R .ret { tmps := tmps, defers := [] } w := by
  obtain ⟨c0, c1, c2, c3⟩ := cells4 hb
  refine bodyPost_ret (v := .tuple #[.agg #[v0, v1, v2, v3], u1, u2]) ?_ rfl hR
  simp [results, hfn, go_sem, h4, h5, h6, c0, c1, c2, c3]
theorem ret_one {fn : Func} {p : Nat} {tmps : Array Value} {w : World} {R : Ending → World → Prop} {b T : Nat} {v0 v1 v2 v3 : Value} (hfn : fn.results = #[.cell p 24])
    (h4 : tmps[p]?.getD undef = .pointer (some ⟨b, 0, none⟩)) (hb : w.heap[b]? = some (.cells #[v0, v1, v2, v3] T (0, 0)))
    (hR : R (.returned (.agg #[v0, v1, v2, v3])) w) : bodyPost Tryd.prog fn R .ret { tmps := tmps, defers := [] } w := by
  obtain ⟨c0, c1, c2, c3⟩ := cells4 hb
  refine bodyPost_ret (v := .agg #[v0, v1, v2, v3]) ?_ rfl hR
  simp [results, hfn, go_sem, h4, c0, c1, c2, c3]
theorem wrong_is (t : ByteArray) (w : World) : Calls Tryd.prog 20 #[.string t] w fun e w' => e = .returned (tV 2 0 t none 0 0) ∧ Below w.heap.size w w' := by
  have HN := Lib.hid (new1 w #[.int .i64 0, .int .i64 0, .string ⟨#[]⟩, .slice none 0 0] 24)
  go_enter Tryd.func20, Tryd.ntmps20
  go_upto_region 1 with fail
  obtain ⟨w1, hw1⟩ : ∃ w1, w1 = w.alloc (.cells #[.int .i64 0, .int .i64 0, .string ⟨#[]⟩, .slice none 0 0] 24) := ⟨_, rfl⟩
  rw [← hw1] at HN ⊢
  clear hw1
  obtain ⟨x0, x1, x2, x3⟩ := cells4 HN.out.1
  obtain ⟨f0, f1, f2, f3⟩ := frees4 HN.out.1
  go_wp2
  refine ret_one rfl rfl (sets4 _ _ _ _ HN.out.1) ?_
  exact ⟨rfl, below_sets4 HN.out.2 (Nat.le_refl _)⟩
theorem text_is (t : ByteArray) (w : World) : Calls Tryd.prog 17 #[.string t] w fun e w' => e = .returned (tV 4 0 t none 0 0) ∧ Below w.heap.size w w' := by
  have HN := Lib.hid (new1 w #[.int .i64 0, .int .i64 0, .string ⟨#[]⟩, .slice none 0 0] 24)
  go_enter Tryd.func17, Tryd.ntmps17
  go_upto_region 1 with fail
  obtain ⟨w1, hw1⟩ : ∃ w1, w1 = w.alloc (.cells #[.int .i64 0, .int .i64 0, .string ⟨#[]⟩, .slice none 0 0] 24) := ⟨_, rfl⟩
  rw [← hw1] at HN ⊢
  clear hw1
  obtain ⟨x0, x1, x2, x3⟩ := cells4 HN.out.1
  obtain ⟨f0, f1, f2, f3⟩ := frees4 HN.out.1
  go_wp2
  refine ret_one rfl rfl (sets4 _ _ _ _ HN.out.1) ?_
  exact ⟨rfl, below_sets4 HN.out.2 (Nat.le_refl _)⟩
theorem num_is (n : Int) (w : World) : Calls Tryd.prog 19 #[.int .i64 n] w fun e w' => e = .returned (tV 3 n ⟨#[]⟩ none 0 0) ∧ Below w.heap.size w w' := by
  have HN := Lib.hid (new1 w #[.int .i64 0, .int .i64 0, .string ⟨#[]⟩, .slice none 0 0] 24)
  go_enter Tryd.func19, Tryd.ntmps19
  go_upto_region 1 with fail
  obtain ⟨w1, hw1⟩ : ∃ w1, w1 = w.alloc (.cells #[.int .i64 0, .int .i64 0, .string ⟨#[]⟩, .slice none 0 0] 24) := ⟨_, rfl⟩
  rw [← hw1] at HN ⊢
  clear hw1
  obtain ⟨x0, x1, x2, x3⟩ := cells4 HN.out.1
  obtain ⟨f0, f1, f2, f3⟩ := frees4 HN.out.1
  go_wp2
  refine ret_one rfl rfl (sets4 _ _ _ _ HN.out.1) ?_
  exact ⟨rfl, below_sets4 HN.out.2 (Nat.le_refl _)⟩
/-- reply.read of a plain line. -/
theorem read_1 (t s : ByteArray) (d : Int) (more : List UInt8) (w : World) (hp : plainB t = true) (hs : s.toList = 43 :: (t.toList ++ crlf) ++ more) (hsz : s.size ≤ 9223372036854775807) :
    Calls Tryd.prog 25 #[.string s, .int .i64 d] w fun e w' => e = .returned (.tuple #[tV 1 0 t none 0 0, .int .i64 ((t.size : Int) + 3), .int .i64 0]) ∧ Below w.heap.size w w' := by
  have hpt : (∀ b ∈ t.toList, ¬ b = 13 ∧ ¬ b = 10) ∧ t.size ≤ 509 := by
    unfold plainB at hp; simp at hp; exact ⟨fun b hb => hp.1 b hb, hp.2⟩
  have hlt : t.toList.length = t.size := toList_len t
  obtain ⟨L, hL⟩ : ∃ L : List UInt8, L = 43 :: t.toList := ⟨_, rfl⟩
  have hLl : L.length = t.size + 1 := by rw [hL]; simp [hlt]
  have HL := Lib.hid (fun wx => line_ok L s more wx (by rw [hs, hL]; simp [crlf]) (by intro b hb; rw [hL] at hb; rcases List.mem_cons.1 hb with rfl | h; decide; exact hpt.1 b h) (by omega) hsz)
  have h0 : 0 < s.size := by rw [← toList_len, hs]; simp
  have hg : s[0]'h0 = 43 := by
    have := ba_get h0
    rw [hs] at this; simpa using this.symm
  have hx : (⟨L.toArray⟩ : ByteArray).extract 1 (t.size + 1) = t := by rw [hL]; exact tail_ext 43 t
  have hLs : (⟨L.toArray⟩ : ByteArray).size = t.size + 1 := by show L.toArray.size = _; simp [hLl]
  have HI := Lib.hid (fun (wx : World) => (Tryd.strings_IndexByte ⟨#[43, 45, 58, 36, 42]⟩ 43 wx).mono (R' := fun e w' => e = .returned (.int .i64 0) ∧ wx = w') (fun e w' h => ⟨h.1, h.2.symm⟩))
  have HN := Lib.hid (new1 w #[.int .i64 0, .int .i64 0, .string ⟨#[]⟩, .slice none 0 0] 24)
  have hne : s.toList.isEmpty = false := by rw [hs]; rfl
  obtain ⟨x0, x1, x2, x3⟩ := cells4 HN.out.1
  clear hs hL hp hpt
  go_enter Tryd.func25, Tryd.ntmps25
  go_wp2_with (first
    | (go_at_call 33; refine Calls.mono (HI.out _) ?_; rintro e w1 ⟨rfl, rfl⟩)
    | (go_at_call 34; refine Calls.mono (HL.out _) ?_; (rintro e w2 ⟨rfl, hb2⟩; have HB2 := Lib.hid (HN.out.2.trans (hb2.mono HN.out.2.size)); have HX2 := Lib.hid (keep_blk hb2 HN.out.1); clear hb2 x0 x1 x2 x3; obtain ⟨x0, x1, x2, x3⟩ := cells4 HX2.out; obtain ⟨f0, f1, f2, f3⟩ := frees4 HX2.out)))
  refine ret_reply rfl rfl rfl rfl (sets4 _ _ _ _ HX2.out) ?_
  exact ⟨rfl, below_sets4 HB2.out (Nat.le_refl _)⟩
/-- reply.read of a line of an error. -/
theorem read_2 (t s : ByteArray) (d : Int) (more : List UInt8) (w : World) (hp : plainB t = true) (hs : s.toList = 45 :: (t.toList ++ crlf) ++ more) (hsz : s.size ≤ 9223372036854775807) :
    Calls Tryd.prog 25 #[.string s, .int .i64 d] w fun e w' => e = .returned (.tuple #[tV 2 0 t none 0 0, .int .i64 ((t.size : Int) + 3), .int .i64 0]) ∧ Below w.heap.size w w' := by
  have hpt : (∀ b ∈ t.toList, ¬ b = 13 ∧ ¬ b = 10) ∧ t.size ≤ 509 := by
    unfold plainB at hp; simp at hp; exact ⟨fun b hb => hp.1 b hb, hp.2⟩
  have hlt : t.toList.length = t.size := toList_len t
  obtain ⟨L, hL⟩ : ∃ L : List UInt8, L = 45 :: t.toList := ⟨_, rfl⟩
  have hLl : L.length = t.size + 1 := by rw [hL]; simp [hlt]
  have HL := Lib.hid (fun wx => line_ok L s more wx (by rw [hs, hL]; simp [crlf]) (by intro b hb; rw [hL] at hb; rcases List.mem_cons.1 hb with rfl | h; decide; exact hpt.1 b h) (by omega) hsz)
  have h0 : 0 < s.size := by rw [← toList_len, hs]; simp
  have hg : s[0]'h0 = 45 := by
    have := ba_get h0
    rw [hs] at this; simpa using this.symm
  have hx : (⟨L.toArray⟩ : ByteArray).extract 1 (t.size + 1) = t := by rw [hL]; exact tail_ext 45 t
  have hLs : (⟨L.toArray⟩ : ByteArray).size = t.size + 1 := by show L.toArray.size = _; simp [hLl]
  have HI := Lib.hid (fun (wx : World) => (Tryd.strings_IndexByte ⟨#[43, 45, 58, 36, 42]⟩ 45 wx).mono (R' := fun e w' => e = .returned (.int .i64 1) ∧ wx = w') (fun e w' h => ⟨h.1, h.2.symm⟩))
  have HN := Lib.hid (new1 w #[.int .i64 0, .int .i64 0, .string ⟨#[]⟩, .slice none 0 0] 24)
  have hne : s.toList.isEmpty = false := by rw [hs]; rfl
  obtain ⟨x0, x1, x2, x3⟩ := cells4 HN.out.1
  clear hs hL hp hpt
  go_enter Tryd.func25, Tryd.ntmps25
  go_wp2_with (first
    | (go_at_call 33; refine Calls.mono (HI.out _) ?_; rintro e w1 ⟨rfl, rfl⟩)
    | (go_at_call 20; refine Calls.mono (wrong_is t _) ?_; (rintro e w3 ⟨rfl, hb3⟩; have HB3 := Lib.hid (HB2.out.trans (hb3.mono HB2.out.size)); have HX3 := Lib.hid (keep_blk hb3 HX2.out); clear hb3 x0 x1 x2 x3 f0 f1 f2 f3; obtain ⟨x0, x1, x2, x3⟩ := cells4 HX3.out; obtain ⟨f0, f1, f2, f3⟩ := frees4 HX3.out))
    | (go_at_call 34; refine Calls.mono (HL.out _) ?_; (rintro e w2 ⟨rfl, hb2⟩; have HB2 := Lib.hid (HN.out.2.trans (hb2.mono HN.out.2.size)); have HX2 := Lib.hid (keep_blk hb2 HN.out.1); clear hb2 x0 x1 x2 x3; obtain ⟨x0, x1, x2, x3⟩ := cells4 HX2.out; obtain ⟨f0, f1, f2, f3⟩ := frees4 HX2.out)))
  refine ret_reply rfl rfl rfl rfl (sets4 _ _ _ _ HX3.out) ?_
  exact ⟨rfl, below_sets4 HB3.out (Nat.le_refl _)⟩
end Go.Proofs.YteghfinngilfgaaDoor.T
