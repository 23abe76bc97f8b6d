import Derived.Deep.DeepCutAuto
import Derived.Laws.OwnMore
import Derived.OwnWalk
import Derived.Lib.AppendStr
import Derived.Lib.SliceRun
import Derived.Lib.SmallJoins
import Derived.IntWalk
import Derived.WalkMore
import Derived.Lib.OthersKept
import Derived.Deep.LoopGhost
import Derived.Deep.RegionLaw
import Derived.Deep.AppendLies
import Derived.Test.YtfdcacjfngjmdaaDoorProg
import Derived.Test.YtfdcacjfngjmdaaDoorMem
import Derived.Test.YtfdcacjfngjmdaaDoorBlk
import Derived.Test.YtfdcacjfngjmdaaDoorAp
import Derived.Test.YtfdcacjfngjmdaaDoorEa
import Derived.WalkKit
import Derived.Outline
import Derived.WalkLawsBesides
import Derived.Deep.QuietTactic
import Derived.BigQuiet
import Derived.Lib.Hide
import Derived.Handy
import Derived.Deep.RegionHeld3
import Derived.Deep.DrawnRows
import Derived.KernelRfl
import Derived.Great.Walk
import Derived.Test.YtfdcacjfngjmdaaDoorOwn
namespace Go.Proofs.YtfdcacjfngjmdaaDoor.T
open Go Go.RowKit Go.Sort Mem Own
set_option maxRecDepth 100000
set_option maxHeartbeats 1000000
set_option linter.unusedVariables false
set_option linter.unusedSimpArgs false

theorem rdel_is (t : ByteArray) (w : World) : Calls Tryd.prog 40 #[.agg #[.slice none 0 0, .int .i64 4, .int .i64 0], .string t] w fun e w' => e = .returned (.tuple #[.agg #[.slice none 0 0, .int .i64 4, .int .i64 0], .bool false]) ∧ Below w.heap.size w w' := by
  have HN := Lib.hid (new2 w #[.slice none 0 0, .int .i64 4, .int .i64 0] #[.slice none 0 0, .int .i64 0, .int .i64 0] 50 50)
  go_enter Tryd.func40, Tryd.ntmps40
  go_upto_region 1 with fail
  obtain ⟨w1, hw1⟩ : ∃ w1, w1 = (w.alloc (.cells #[.slice none 0 0, .int .i64 4, .int .i64 0] 50)).alloc (.cells #[.slice none 0 0, .int .i64 0, .int .i64 0] 50) := ⟨_, rfl⟩
  rw [← hw1] at HN ⊢
  clear hw1
  have hz1 := HN.out.2.2.size
  obtain ⟨y0, y1, y2⟩ := cells3 HN.out.1
  go_cut [2] (fun s2 wx => s2 = .pointer (some ⟨w.heap.size, 0, none⟩) ∧ RowKit.Hid (wx.heap[w.heap.size]? = some (.cells #[.slice none 0 0, .int .i64 4, .int .i64 0] 50 (0, 0))) ∧ RowKit.Hid (wx.heap[w.heap.size + 1]? = some (.cells #[.slice none 0 0, .int .i64 0, .int .i64 0] 50 (0, 0))) ∧ RowKit.Hid (Below w.heap.size w wx))
  case first =>
    go_wp2_with (go_at_call 42; refine Calls.mono (rstep_is _) ?_; rintro e w2 ⟨rfl, hb2⟩; have HB1 := Lib.hid (keep_blk hb2 HN.out.1); have HB2 := Lib.hid (keep_blk hb2 HN.out.2.1); have HW2 := Lib.hid (HN.out.2.2.trans (hb2.mono hz1)); clear hb2; obtain ⟨q0, q1, q2⟩ := cells3 HB1.out; obtain ⟨f0, f1, f2⟩ := frees3 HB1.out)
    go_meet
    exact ⟨rfl, Lib.hid (sets3 _ _ _ HB1.out), Lib.hid (blk_sets3 HB2.out (by omega)), Lib.hid (below_sets3 HW2.out (Nat.le_refl _))⟩
  case rest =>
    obtain ⟨rfl, HB1, HB2, HW⟩ := hcut
    obtain ⟨x0, x1, x2⟩ := cells3 HB1.out
    obtain ⟨f0, f1, f2⟩ := frees3 HB1.out
    obtain ⟨z0, z1, z2⟩ := frees3 HB2.out
    obtain ⟨p0, p1, p2⟩ := cells3 HB2.out
    clear y0 y1 y2
    go_wp2_with fail
    refine wp_loop_rounds 1 ?_; rw [rounds_succ]
    go_upto_region 10 with fail
    obtain ⟨w3, hw3⟩ : ∃ w3, w3 = wc.setCell ⟨w.heap.size, 0, none⟩ (.slice none 0 0) := ⟨_, rfl⟩
    have HC1 := Lib.hid (show w3.heap[w.heap.size]? = some (.cells #[.slice none 0 0, .int .i64 4, .int .i64 0] 50 (0, 0)) by rw [hw3, blk_set HB1.out]; rfl)
    have HC2 := Lib.hid (show w3.heap[w.heap.size + 1]? = some (.cells #[.slice none 0 0, .int .i64 0, .int .i64 0] 50 (0, 0)) by rw [hw3]; exact blk_off (by omega) HB2.out)
    have HW3 := Lib.hid (show Below w.heap.size w w3 by rw [hw3]; exact Below.setCell (p := ⟨w.heap.size, 0, none⟩) HW.out (Nat.le_refl _) _)
    rw [← hw3]
    clear hw3 x0 x1 x2 f0 f1 f2 z0 z1 z2 p0 p1 p2
    obtain ⟨x0, x1, x2⟩ := cells3 HC1.out
    obtain ⟨z0, z1, z2⟩ := frees3 HC2.out
    obtain ⟨p0, p1, p2⟩ := cells3 HC2.out
    go_wp2
    refine ret_d rfl rfl rfl (sets3 _ _ _ HC2.out) ?_
    exact ⟨rfl, below_sets3 HW3.out (by omega)⟩
theorem info87 : (Tryd.prog.info? 87).map (fun i => (i.zero, i.size, i.bytes)) = some (some (.agg #[.string ⟨#[]⟩, .int .i64 0]), 2, 24) := by kernel_rfl
theorem rput_is (t : ByteArray) (v : Int) (w : World) : Calls Tryd.prog 39 #[.agg #[.slice none 0 0, .int .i64 4, .int .i64 0], .string t, .int .i64 v] w fun e w' => ∃ A c, e = .returned (.tuple #[.agg #[.slice A 1 c, .int .i64 4, .int .i64 0], .bool false]) ∧ Below w.heap.size w w' := by
  have HN := Lib.hid (new2 w #[.slice none 0 0, .int .i64 4, .int .i64 0] #[.slice none 0 0, .int .i64 0, .int .i64 0] 50 50)
  go_enter Tryd.func39, Tryd.ntmps39
  go_upto_region 1 with fail
  obtain ⟨w1, hw1⟩ : ∃ w1, w1 = (w.alloc (.cells #[.slice none 0 0, .int .i64 4, .int .i64 0] 50)).alloc (.cells #[.slice none 0 0, .int .i64 0, .int .i64 0] 50) := ⟨_, rfl⟩
  rw [← hw1] at HN ⊢
  clear hw1
  have hz1 := HN.out.2.2.size
  obtain ⟨y0, y1, y2⟩ := cells3 HN.out.1
  go_cut [3] (fun s2 wx => s2 = .pointer (some ⟨w.heap.size, 0, none⟩) ∧ RowKit.Hid (wx.heap[w.heap.size]? = some (.cells #[.slice none 0 0, .int .i64 4, .int .i64 0] 50 (0, 0))) ∧ RowKit.Hid (wx.heap[w.heap.size + 1]? = some (.cells #[.slice none 0 0, .int .i64 0, .int .i64 0] 50 (0, 0))) ∧ RowKit.Hid (Below w.heap.size w wx))
  case first =>
    go_wp2_with (go_at_call 42; refine Calls.mono (rstep_is _) ?_; rintro e w2 ⟨rfl, hb2⟩; have HB1 := Lib.hid (keep_blk hb2 HN.out.1); have HB2 := Lib.hid (keep_blk hb2 HN.out.2.1); have HW2 := Lib.hid (HN.out.2.2.trans (hb2.mono hz1)); clear hb2; obtain ⟨q0, q1, q2⟩ := cells3 HB1.out; obtain ⟨f0, f1, f2⟩ := frees3 HB1.out)
    go_meet
    exact ⟨rfl, Lib.hid (sets3 _ _ _ HB1.out), Lib.hid (blk_sets3 HB2.out (by omega)), Lib.hid (below_sets3 HW2.out (Nat.le_refl _))⟩
  case rest =>
    obtain ⟨rfl, HB1, HB2, HW⟩ := hcut
    obtain ⟨x0, x1, x2⟩ := cells3 HB1.out
    have hzc := HW.out.size
    have hz2 := lt_of_blk HB2.out
    obtain ⟨i0, hi, hy0, hy1, hy2⟩ := info_parts info87
    clear y0 y1 y2
    go_wp2_with fail
    refine wp_loop_rounds 1 ?_; rw [rounds_succ]
    go_upto_region 17 with (at_builtin; refine wpList_append_lies _ rfl (.tmp 54) (.tmp 58) 48 rfl w.heap.size 87 i0 _ 2 24 Tryd.underlying48 hi hy0 hy1 hy2 rfl (by decide) (.slice none 0 0) 0 [] rfl (World.ownsRow_nil _ _ _ _) ⟨wc.heap.size, 0, none⟩ 1 1 [.string t, .int .i64 v] rfl rfl (World.news_of_block (cs := #[.string t, .int .i64 v]) (t := 87) (fr := (0, 0)) (heap_alloc_new wc _)) (by intro u hu; simp at hu; rcases hu with rfl | rfl <;> rfl) (by decide) (by decide) (by decide) (by simp; omega) _ rfl ?_; intro g cap w5 hown hg hat hlt; have HB5 := Lib.hid ((hg.block w.heap.size (by simp; omega) (by simp [Value.ownBlock])).trans (blk_new HB1.out _)); have HC5 := Lib.hid ((hg.block (w.heap.size + 1) (by simp; omega) (by simp [Value.ownBlock])).trans (blk_new HB2.out _)); have HW5 := Lib.hid ((HW.out.alloc hzc _).grown hg (by simp; omega) (by intro k hk; simp [Value.ownBlock] at hk)); clear hown hg hat hlt)
    have hz5 := lt_of_blk HC5.out
    obtain ⟨x0, x1, x2⟩ := cells3 HB5.out
    obtain ⟨f0, f1, f2⟩ := frees3 HB5.out
    go_upto_region 18 with fail
    obtain ⟨w3, hw3⟩ : ∃ w3, w3 = w5.setCell ⟨w.heap.size, 0, none⟩ (.slice (some ⟨g, 0, none⟩) (0 + 1) cap) := ⟨_, rfl⟩
    have HD1 := Lib.hid (show w3.heap[w.heap.size]? = some (.cells #[.slice (some ⟨g, 0, none⟩) 1 cap, .int .i64 4, .int .i64 0] 50 (0, 0)) by rw [hw3, blk_set HB5.out]; rfl)
    have HD2 := Lib.hid (show w3.heap[w.heap.size + 1]? = some (.cells #[.slice none 0 0, .int .i64 0, .int .i64 0] 50 (0, 0)) by rw [hw3]; exact blk_off (by omega) HC5.out)
    have HW3 := Lib.hid (show Below w.heap.size w w3 by rw [hw3]; exact Below.setCell (p := ⟨w.heap.size, 0, none⟩) HW5.out (Nat.le_refl _) _)
    first | rw [← hw3] | (rw [show (.slice (some ⟨g, 0, none⟩) 1 cap : Value) = .slice (some ⟨g, 0, none⟩) (0 + 1) cap from rfl, ← hw3])
    clear hw3 x0 x1 x2 f0 f1 f2
    obtain ⟨x0, x1, x2⟩ := cells3 HD1.out
    obtain ⟨z0, z1, z2⟩ := frees3 HD2.out
    obtain ⟨p0, p1, p2⟩ := cells3 HD2.out
    go_wp2
    refine ret_d rfl rfl rfl (sets3 _ _ _ HD2.out) ?_
    exact ⟨_, _, rfl, below_sets3 HW3.out (by omega)⟩
end Go.Proofs.YtfdcacjfngjmdaaDoor.T
