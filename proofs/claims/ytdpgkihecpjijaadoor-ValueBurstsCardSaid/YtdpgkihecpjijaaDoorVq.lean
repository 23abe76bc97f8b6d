import Derived.Test.YtdpgkihecpjijaaDoorVk
import Derived.Test.YtdpgkihecpjijaaDoorVl
import Derived.Test.YtdpgkihecpjijaaDoorVm
import Derived.Test.YtdpgkihecpjijaaDoorVn
import Derived.Test.YtdpgkihecpjijaaDoorVo
import Derived.Test.YtdpgkihecpjijaaDoorVp
import Derived.WalkKit
import Derived.Outline
import Derived.WalkLawsBesides
import Derived.Deep.QuietTactic
import Derived.BigQuiet
import Derived.Lib.Hide
import Derived.Handy
import Derived.Deep.RegionHeld3
import Derived.Deep.DrawnRows
import Derived.KernelRfl
import Derived.Sort.Walk0
import Derived.Great.Walk
import Derived.Test.YtdpgkihecpjijaaDoorOwn
namespace Go.Proofs.YtdpgkihecpjijaaDoor.T
open Go Go.RowKit Mem Own
set_option maxRecDepth 100000
set_option maxHeartbeats 1000000
set_option linter.unusedVariables false
set_option linter.unusedSimpArgs false

def rdNum (n : Nat) (s : ByteArray) (bad : Bool) : Nat × ByteArray × Bool := (num (rdN n s bad).1.data.toList, (rdN n s bad).2.1, (rdN n s bad).2.2)
def rdTxt (s : ByteArray) (bad : Bool) : ByteArray × ByteArray × Bool := rdN (rdNum 2 s bad).1 (rdNum 2 s bad).2.1 (rdNum 2 s bad).2.2
def rdCnt (s : ByteArray) (bad : Bool) : Nat × ByteArray × Bool := if 256 < (rdNum 2 s bad).1 then (0, (rdNum 2 s bad).2.1, true) else rdNum 2 s bad
theorem rnum_at (g n : Nat) (s : ByteArray) (bad : Bool) (w : World) (h : Rdr w g s bad) (hs : s.size ≤ maxLen) (hn : n ≤ 4) :
    Calls Tryd.prog 56 #[.pointer (some ⟨g, 0, none⟩), .int .i64 (n : Int)] w (RdOut g (.int .i64 ((rdNum n s bad).1 : Nat)) (rdNum n s bad).2.1 (rdNum n s bad).2.2 w) := rnum_is g n s bad w h hs hn
/-- reader.text -/
theorem rtext_is (g : Nat) (s : ByteArray) (bad : Bool) (w : World) (h : Rdr w g s bad) (hs : s.size ≤ maxLen) :
    Calls Tryd.prog 57 #[.pointer (some ⟨g, 0, none⟩)] w (RdOut g (.string (rdTxt s bad).1) (rdTxt s bad).2.1 (rdTxt s bad).2.2 w) := by
  have HB := Lib.hid (rnum_at g 2 s bad w h hs (by decide))
  have hs2 : (rdNum 2 s bad).2.1.size ≤ maxLen := Nat.le_trans (rdN_left 2 s bad) hs
  unfold rdTxt
  generalize rdNum 2 s bad = r at HB hs2 ⊢
  obtain ⟨n, s1, b1⟩ := r
  dsimp only at HB hs2 ⊢
  have HS := Lib.hid hs2
  clear h hs2
  go_enter Tryd.func57, Tryd.ntmps57
  go_wp2_with (first
    | (go_at_call 56; refine HB.out.mono ?_; rintro e w1 ⟨rfl, HR, HO⟩)
    | (go_at_call 64; refine (rbytes_is g n s1 b1 _ HR.out HS.out).mono ?_; rintro e w2 ⟨rfl, HR2, HO2⟩))
  go_ret
  exact ⟨rfl, HR2, Lib.hid (only_trans HO.out HO2.out)⟩
/-- reader.count -/
theorem rcount_is (g : Nat) (s : ByteArray) (bad : Bool) (w : World) (h : Rdr w g s bad) (hs : s.size ≤ maxLen) :
    Calls Tryd.prog 58 #[.pointer (some ⟨g, 0, none⟩)] w (RdOut g (.int .i64 ((rdCnt s bad).1 : Nat)) (rdCnt s bad).2.1 (rdCnt s bad).2.2 w) := by
  have HB := Lib.hid (rnum_at g 2 s bad w h hs (by decide))
  unfold rdCnt
  generalize rdNum 2 s bad = r at HB ⊢
  obtain ⟨n, s1, b1⟩ := r
  dsimp only at HB ⊢
  clear h
  by_cases hn : 256 < n
  · rw [if_pos hn]
    go_enter Tryd.func58, Tryd.ntmps58
    go_wp2_with (go_at_call 56; refine HB.out.mono ?_; rintro e w1 ⟨rfl, HR, HO⟩; obtain ⟨h0, h1, f0, f1⟩ := HR.out.cells)
    go_ret
    exact rd_out rfl rfl rfl (by have := heap_set (i := 1) HR.out (.bool true); simpa [Rdr] using this) (only_trans HO.out (only_set _ _ _ _))
  · rw [if_neg hn]
    go_enter Tryd.func58, Tryd.ntmps58
    go_wp2_with (go_at_call 56; refine HB.out.mono ?_; rintro e w1 ⟨rfl, HR, HO⟩)
    go_ret
    exact ⟨rfl, HR, HO⟩
end Go.Proofs.YtdpgkihecpjijaaDoor.T
