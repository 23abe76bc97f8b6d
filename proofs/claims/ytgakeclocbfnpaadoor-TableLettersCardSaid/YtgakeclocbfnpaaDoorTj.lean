import Derived.Test.YtgakeclocbfnpaaDoorProg
import Derived.Test.YtgakeclocbfnpaaDoorShelf
import Derived.Test.YtgakeclocbfnpaaDoorMem
import Derived.Test.YtgakeclocbfnpaaDoorTa
import Derived.Test.YtgakeclocbfnpaaDoorTa2
import Derived.Test.YtgakeclocbfnpaaDoorTb
import Derived.Test.YtgakeclocbfnpaaDoorTc
import Derived.Test.YtgakeclocbfnpaaDoorTd
import Derived.Test.YtgakeclocbfnpaaDoorTe
import Derived.Test.YtgakeclocbfnpaaDoorTf
import Derived.Test.YtgakeclocbfnpaaDoorTg
import Derived.Test.YtgakeclocbfnpaaDoorTh
import Derived.Test.YtgakeclocbfnpaaDoorTi
import Derived.Test.YtgakeclocbfnpaaDoorTja
import Derived.WalkKit
import Derived.Outline
import Derived.WalkLawsBesides
import Derived.Deep.QuietTactic
import Derived.BigQuiet
import Derived.Lib.Hide
import Derived.Handy
import Derived.Deep.RegionHeld3
import Derived.Deep.DrawnRows
import Derived.KernelRfl
import Derived.Great.Walk
import Derived.Test.YtgakeclocbfnpaaDoorOwn
namespace Go.Proofs.YtgakeclocbfnpaaDoor.T
open Go Go.RowKit Mem Own
set_option maxRecDepth 100000
set_option maxHeartbeats 1000000
set_option linter.unusedVariables false
set_option linter.unusedSimpArgs false

/-- table.Find -/
theorem find_is (s : ByteArray) (w : World) (hs : s.size ≤ maxLen) (hT : U8 w) :
    Calls Tryd.prog 12 #[.string s] w fun e w' => e = .returned (.tuple #[spV (fsp s), .bool (fis s)]) ∧ Below w.heap.size w w' := by
  unfold maxLen at hs
  have HT := Lib.hid hT
  clear hT
  by_cases hl : 10 < s.size
  · have hf := Lib.hid (fk_long hl)
    go_enter Tryd.func12, Tryd.ntmps12
    go_wp2
    exact bodyPost_ret (v := .tuple #[spV sp0, .bool false]) (by simp [results, Tryd.results12, go_sem, sp0]) rfl ⟨ret_nofind hf.out, (by ((repeat (first | exact Below.refl _ _ | (refine Below.drew ?_) | (refine Go.below_drewN ?_ _) | (refine Below.alloc ?_ (by first | (simp; done) | omega | (simp; omega)) _) | (refine Below.setCell ?_ (by first | (simp; done) | omega | (simp; omega)) _) | (refine Below.trans ?_ (Below.mono (by assumption) (by first | (simp; done) | omega | (simp; omega)))))); done))⟩
  · have hl' : s.size ≤ 10 := by omega
    rcases fk_cases s with ⟨k, hk, hf⟩ | hf
    · have hi := Lib.hid (idx_at hf hk)
      have HF := Lib.hid hf
      clear hf
      go_enter Tryd.func12, Tryd.ntmps12
      go_wp2_with (first
        | (go_at_call 19; refine (all_is _).mono ?_; rintro e w1 ⟨rfl, rfl⟩)
        | (go_at_call 20; refine Calls.mono (index_is _ s ⟨w.heap.size, 0, none⟩ _ hl' (HT.out.below ?_) ?_ (tab_new2 w _ _)) ?_; (focus ((repeat (first | exact Below.refl _ _ | (refine Below.drew ?_) | (refine Go.below_drewN ?_ _) | (refine Below.alloc ?_ (by first | (simp; done) | omega | (simp; omega)) _) | (refine Below.setCell ?_ (by first | (simp; done) | omega | (simp; omega)) _) | (refine Below.trans ?_ (Below.mono (by assumption) (by first | (simp; done) | omega | (simp; omega)))))); done)); (focus (simp [go_sem]; done)); rintro e w1 ⟨rfl, hb1⟩; have hbx := box7 hb1; obtain ⟨d0, d1, d2, d3, d4, d5, d6⟩ := facts7 hbx; obtain ⟨f0, f1, f2, f3, f4, f5, f6⟩ := free7 hbx; have HBX := Lib.hid hbx; clear hbx; obtain ⟨e0, e1, e2, e3, e4, e5, e6⟩ := (tab_new2 w (.cells #[.string s] 9) (.cells #[.string ⟨#[]⟩, .int .i64 0, .int .i64 0, .int .i64 0, .int .i64 0, .int .i64 0, .bool false] 25)).below hb1; replace e0 := e0 k hk; replace e1 := e1 k hk; replace e2 := e2 k hk; replace e3 := e3 k hk; replace e4 := e4 k hk; replace e5 := e5 k hk; replace e6 := e6 k hk; have HB1 := Lib.hid hb1; have hz1 : w.heap.size + 3 ≤ w1.heap.size := (by have := hb1.size; simp at this; omega); clear hb1; rw [hi.out]))
      refine end7 (u := .bool true) Tryd.results12 ?_ ?_ (set7 _ _ _ _ _ _ _ HBX.out) ?_
      · rfl
      · rfl
      · exact ⟨ret_find HF.out hk, below_s7 (below_a3 HB1.out) (by omega)⟩
    · have hi := Lib.hid (idx_none hf)
      have HF := Lib.hid hf
      clear hf
      go_enter Tryd.func12, Tryd.ntmps12
      go_wp2_with (first
        | (go_at_call 19; refine (all_is _).mono ?_; rintro e w1 ⟨rfl, rfl⟩)
        | (go_at_call 20; refine Calls.mono (index_is _ s ⟨w.heap.size, 0, none⟩ _ hl' (HT.out.below ?_) ?_ (tab_new2 w _ _)) ?_; (focus ((repeat (first | exact Below.refl _ _ | (refine Below.drew ?_) | (refine Go.below_drewN ?_ _) | (refine Below.alloc ?_ (by first | (simp; done) | omega | (simp; omega)) _) | (refine Below.setCell ?_ (by first | (simp; done) | omega | (simp; omega)) _) | (refine Below.trans ?_ (Below.mono (by assumption) (by first | (simp; done) | omega | (simp; omega)))))); done)); (focus (simp [go_sem]; done)); rintro e w1 ⟨rfl, hb1⟩; have hbx := box7 hb1; obtain ⟨d0, d1, d2, d3, d4, d5, d6⟩ := facts7 hbx; obtain ⟨f0, f1, f2, f3, f4, f5, f6⟩ := free7 hbx; have HBX := Lib.hid hbx; clear hbx; skip; have HB1 := Lib.hid hb1; have hz1 : w.heap.size + 3 ≤ w1.heap.size := (by have := hb1.size; simp at this; omega); clear hb1; rw [hi.out]))
      refine end7 (u := .bool false) Tryd.results12 ?_ ?_ (set7 _ _ _ _ _ _ _ HBX.out) ?_
      · rfl
      · rfl
      · exact ⟨ret_nofind HF.out, below_s7 (below_a3 HB1.out) (by omega)⟩
end Go.Proofs.YtgakeclocbfnpaaDoor.T
