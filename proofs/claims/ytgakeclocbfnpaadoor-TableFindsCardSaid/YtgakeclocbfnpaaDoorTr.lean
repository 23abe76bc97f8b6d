import Derived.Deep.DeepCutAuto
import Derived.Test.YtgakeclocbfnpaaDoorProg
import Derived.Test.YtgakeclocbfnpaaDoorShelf
import Derived.Test.YtgakeclocbfnpaaDoorMem
import Derived.Test.YtgakeclocbfnpaaDoorTa
import Derived.Test.YtgakeclocbfnpaaDoorTa2
import Derived.Test.YtgakeclocbfnpaaDoorTb
import Derived.Test.YtgakeclocbfnpaaDoorTc
import Derived.Test.YtgakeclocbfnpaaDoorTd
import Derived.Test.YtgakeclocbfnpaaDoorTe
import Derived.Test.YtgakeclocbfnpaaDoorTf
import Derived.Test.YtgakeclocbfnpaaDoorTg
import Derived.Test.YtgakeclocbfnpaaDoorTh
import Derived.Test.YtgakeclocbfnpaaDoorTi
import Derived.Test.YtgakeclocbfnpaaDoorTja
import Derived.Test.YtgakeclocbfnpaaDoorTj
import Derived.Test.YtgakeclocbfnpaaDoorTka
import Derived.Test.YtgakeclocbfnpaaDoorTkb
import Derived.Test.YtgakeclocbfnpaaDoorTk
import Derived.Test.YtgakeclocbfnpaaDoorTl
import Derived.Test.YtgakeclocbfnpaaDoorTm
import Derived.Test.YtgakeclocbfnpaaDoorTn
import Derived.Test.YtgakeclocbfnpaaDoorTo
import Derived.Test.YtgakeclocbfnpaaDoorTp
import Derived.Test.YtgakeclocbfnpaaDoorTq
import Derived.WalkKit
import Derived.Outline
import Derived.WalkLawsBesides
import Derived.Deep.QuietTactic
import Derived.BigQuiet
import Derived.Lib.Hide
import Derived.Handy
import Derived.Deep.RegionHeld3
import Derived.Deep.DrawnRows
import Derived.KernelRfl
import Derived.Sort.Walk0
import Derived.Great.Walk
import Derived.Test.YtgakeclocbfnpaaDoorOwn
namespace Go.Proofs.YtgakeclocbfnpaaDoor.T
open Go Go.RowKit Mem Own
set_option maxRecDepth 100000
set_option maxHeartbeats 1000000
set_option linter.unusedVariables false
set_option linter.unusedSimpArgs false

theorem keep_block {w w1 : World} {b : Nat} {o : Obj} (hb : Below w.heap.size w w1) (h : w.heap[b]? = some o) : w1.heap[b]? = some o := by
  rw [hb.block b (lt_of_block h)]; exact h
def spO (s : Sp) : Obj := .cells #[.string s.name, .int .i64 s.least, .int .i64 s.most, .int .i64 s.first, .int .i64 s.last, .int .i64 s.step, .bool s.writes] 25 (0, 0)

/-- TableFinds -/
theorem tableFinds_is (s : ByteArray) (w : World) (hs : s.size ≤ maxLen) (hT : U8 w) :
    Calls Tryd.prog 4 #[.string s] w fun e w' => e = .returned (.bool true) ∧ Below w.heap.size w w' := by
  have HT := Lib.hid hT
  clear hT
  obtain ⟨p, hp⟩ : ∃ p, p = fsp s := ⟨_, rfl⟩
  obtain ⟨f, hf⟩ : ∃ f, f = fis s := ⟨_, rfl⟩
  have HP := Lib.hid hp; have HF := Lib.hid hf
  clear hp hf
  go_enter Tryd.func4, Tryd.ntmps4
  go_upto_region 1 with fail
  go_cut [3, 4, 5, 6] (fun s3 s4 s5 s6 wx => ∃ b3 b5 : Nat, s3 = .pointer (some ⟨b3, 0, none⟩) ∧ s4 = .bool f ∧ s5 = undef ∧ s6 = undef ∧ RowKit.Hid (wx.heap[b3]? = some (spO p)) ∧ b5 = 0 ∧ RowKit.Hid (Below w.heap.size w wx))
  case first =>
    go_wp2_with fail
    refine Calls.mono (find_is s w hs HT.out) ?_
    rintro e w1 ⟨rfl, hb1⟩
    rw [← HP.out, ← HF.out]
    have HB1 := Lib.hid hb1
    clear hb1
    go_wp2
    go_meet
    exact ⟨_, 0, rfl, rfl, rfl, rfl, Lib.hid (heap_alloc_new _ _), rfl, Lib.hid (HB1.out.alloc HB1.out.size _)⟩
  case rest =>
    obtain ⟨b3, -, rfl, rfl, rfl, rfl, H3, -, HB⟩ := hcut
    go_upto_region 2 with fail
    go_cut [5, 6] (fun s5 s6 wx => ∃ b5 : Nat, s5 = .pointer (some ⟨b5, 0, none⟩) ∧ s6 = .bool f ∧ RowKit.Hid (wx.heap[b3]? = some (spO p)) ∧ RowKit.Hid (wx.heap[b5]? = some (spO p)) ∧ RowKit.Hid (Below w.heap.size w wx))
    case first =>
      go_wp2_with fail
      refine Calls.mono (rfind_is s _ hs) ?_
      rintro e w1 ⟨rfl, hb1⟩
      rw [← HP.out, ← HF.out]
      have HB1 := Lib.hid hb1
      clear hb1
      go_wp2
      go_meet
      exact ⟨_, rfl, rfl, Lib.hid (keep_block ((Below.refl _ _).alloc (Nat.le_refl _) _) (keep_block HB1.out H3.out)), Lib.hid (heap_alloc_new _ _), Lib.hid ((HB.out.trans (HB1.out.mono HB.out.size)).alloc (by have := HB.out.size; have := HB1.out.size; omega) _)⟩
    case rest =>
      obtain ⟨b5, rfl, rfl, H3, H5, HB⟩ := hcut
      go_wp2_with (go_at_call 11; refine Calls.mono (alive_is _ (HT.out.below HB.out)) ?_; rintro e w3 ⟨rfl, hb3⟩; obtain ⟨d0, d1, d2, d3, d4, d5, d6⟩ := facts7 (keep_block hb3 H3.out); obtain ⟨e0, e1, e2, e3, e4, e5, e6⟩ := facts7 (keep_block hb3 H5.out); have HB3 := Lib.hid hb3; clear hb3)
      go_ret
      exact ⟨rfl, HB.out.trans (HB3.out.mono HB.out.size)⟩
/-- TableChecks -/
theorem tableChecks_is (A : Option Addr) (l : List ByteArray) (c : Nat) (w : World) (ha : Rd w A l) (hn : l.length ≤ maxLen) (hz : ∀ x ∈ l, x.size ≤ maxLen) (hT : U8 w) :
    Calls Tryd.prog 5 #[.slice A l.length c] w fun e w' => e = .returned (.bool true) ∧ Below w.heap.size w w' := by
  unfold maxLen at hn
  have HT := Lib.hid hT
  have HA := Lib.hid ha; have HZ := Lib.hid hz
  clear hT ha hz
  obtain ⟨p, hp⟩ : ∃ p, p = (chk l).1 := ⟨_, rfl⟩
  obtain ⟨f, hf⟩ : ∃ f, f = (chk l).2 := ⟨_, rfl⟩
  have HP := Lib.hid hp; have HF := Lib.hid hf
  clear hp hf
  by_cases h200 : 200 < l.length
  · go_enter Tryd.func5, Tryd.ntmps5
    go_wp2_with (go_at_call 11; refine Calls.mono (alive_is _ HT.out) ?_; rintro e w3 ⟨rfl, hb3⟩)
    go_ret
    exact ⟨rfl, hb3⟩
  · have hn200 : l.length ≤ 200 := by omega
    go_enter Tryd.func5, Tryd.ntmps5
    go_upto_region 3 with fail
    go_cut [3, 4, 5, 6] (fun s3 s4 s5 s6 wx => ∃ b3 b5 : Nat, s3 = .pointer (some ⟨b3, 0, none⟩) ∧ s4 = .int .i64 f ∧ s5 = undef ∧ s6 = undef ∧ RowKit.Hid (wx.heap[b3]? = some (spO p)) ∧ b5 = 0 ∧ RowKit.Hid (Below w.heap.size w wx))
    case first =>
      go_wp2_with fail
      refine Calls.mono (check_is A l c _ HA.out (by omega) HZ.out HT.out) ?_
      rintro e w1 ⟨rfl, hb1⟩
      rw [← HP.out, ← HF.out]
      have HB1 := Lib.hid hb1
      clear hb1
      go_wp2
      go_meet
      exact ⟨_, 0, rfl, rfl, rfl, rfl, Lib.hid (heap_alloc_new _ _), rfl, Lib.hid (HB1.out.alloc HB1.out.size _)⟩
    case rest =>
      obtain ⟨b3, -, rfl, rfl, rfl, rfl, H3, -, HB⟩ := hcut
      go_upto_region 4 with fail
      go_cut [5, 6] (fun s5 s6 wx => ∃ b5 : Nat, s5 = .pointer (some ⟨b5, 0, none⟩) ∧ s6 = .int .i64 f ∧ RowKit.Hid (wx.heap[b3]? = some (spO p)) ∧ RowKit.Hid (wx.heap[b5]? = some (spO p)) ∧ RowKit.Hid (Below w.heap.size w wx))
      case first =>
        go_wp2_with fail
        refine Calls.mono (rcheck_is A l c _ (HA.out.below HB.out) (by omega) HZ.out) ?_
        rintro e w1 ⟨rfl, hb1⟩
        rw [← HP.out, ← HF.out]
        have HB1 := Lib.hid hb1
        clear hb1
        go_wp2
        go_meet
        exact ⟨_, rfl, rfl, Lib.hid (keep_block ((Below.refl _ _).alloc (Nat.le_refl _) _) (keep_block HB1.out H3.out)), Lib.hid (heap_alloc_new _ _), Lib.hid ((HB.out.trans (HB1.out.mono HB.out.size)).alloc (by have := HB.out.size; have := HB1.out.size; omega) _)⟩
      case rest =>
        obtain ⟨b5, rfl, rfl, H3, H5, HB⟩ := hcut
        go_wp2_with (go_at_call 11; refine Calls.mono (alive_is _ (HT.out.below HB.out)) ?_; rintro e w3 ⟨rfl, hb3⟩; obtain ⟨d0, d1, d2, d3, d4, d5, d6⟩ := facts7 (keep_block hb3 H3.out); obtain ⟨e0, e1, e2, e3, e4, e5, e6⟩ := facts7 (keep_block hb3 H5.out); have HB3 := Lib.hid hb3; clear hb3)
        go_ret
        exact ⟨rfl, HB.out.trans (HB3.out.mono HB.out.size)⟩
end Go.Proofs.YtgakeclocbfnpaaDoor.T
