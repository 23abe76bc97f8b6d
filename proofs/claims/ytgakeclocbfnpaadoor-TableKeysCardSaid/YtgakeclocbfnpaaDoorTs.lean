import Derived.Deep.DeepCutAuto
import Derived.Test.YtgakeclocbfnpaaDoorProg
import Derived.Test.YtgakeclocbfnpaaDoorShelf
import Derived.Test.YtgakeclocbfnpaaDoorMem
import Derived.Test.YtgakeclocbfnpaaDoorTa
import Derived.Test.YtgakeclocbfnpaaDoorTa2
import Derived.Test.YtgakeclocbfnpaaDoorTb
import Derived.Test.YtgakeclocbfnpaaDoorTc
import Derived.Test.YtgakeclocbfnpaaDoorTd
import Derived.Test.YtgakeclocbfnpaaDoorTe
import Derived.Test.YtgakeclocbfnpaaDoorTf
import Derived.Test.YtgakeclocbfnpaaDoorTg
import Derived.Test.YtgakeclocbfnpaaDoorTh
import Derived.Test.YtgakeclocbfnpaaDoorTi
import Derived.Test.YtgakeclocbfnpaaDoorTja
import Derived.Test.YtgakeclocbfnpaaDoorTj
import Derived.Test.YtgakeclocbfnpaaDoorTka
import Derived.Test.YtgakeclocbfnpaaDoorTkb
import Derived.Test.YtgakeclocbfnpaaDoorTk
import Derived.Test.YtgakeclocbfnpaaDoorTl
import Derived.Test.YtgakeclocbfnpaaDoorTm
import Derived.Test.YtgakeclocbfnpaaDoorTn
import Derived.Test.YtgakeclocbfnpaaDoorTo
import Derived.Test.YtgakeclocbfnpaaDoorTp
import Derived.Test.YtgakeclocbfnpaaDoorTq
import Derived.WalkKit
import Derived.Outline
import Derived.WalkLawsBesides
import Derived.Deep.QuietTactic
import Derived.BigQuiet
import Derived.Lib.Hide
import Derived.Handy
import Derived.Deep.RegionHeld3
import Derived.Deep.DrawnRows
import Derived.KernelRfl
import Derived.Sort.Walk0
import Derived.Great.Walk
import Derived.Test.YtgakeclocbfnpaaDoorOwn
namespace Go.Proofs.YtgakeclocbfnpaaDoor.T
open Go Go.RowKit Mem Own
set_option maxRecDepth 100000
set_option maxHeartbeats 1000000
set_option linter.unusedVariables false
set_option linter.unusedSimpArgs false

/-- TableKeys -/
theorem tableKeys_is (A : Option Addr) (l : List ByteArray) (c : Nat) (w : World) (ha : Rd w A l) (hn : l.length ≤ maxLen) (hz : ∀ x ∈ l, x.size ≤ maxLen) (hT : U8 w) :
    Calls Tryd.prog 6 #[.slice A l.length c] w fun e w' => e = .returned (.bool true) ∧ Below w.heap.size w w' := by
  unfold maxLen at hn
  have HT := Lib.hid hT
  have HA := Lib.hid ha; have HZ := Lib.hid hz
  clear hT ha hz
  by_cases h200 : 200 < l.length
  · go_enter Tryd.func6, Tryd.ntmps6
    go_wp2_with (go_at_call 11; refine Calls.mono (alive_is _ HT.out) ?_; rintro e w3 ⟨rfl, hb3⟩)
    go_ret
    exact ⟨rfl, hb3⟩
  · have hn200 : l.length ≤ 200 := by omega
    have hkl := keyUpTo_len l l.length
    have HK : ∃ K, K = keysOf l := ⟨_, rfl⟩
    obtain ⟨K, hK⟩ := HK
    have hKl : K.length ≤ 200 := by rw [hK]; unfold keysOf; omega
    have HK := Lib.hid hK
    clear hK hkl
    go_enter Tryd.func6, Tryd.ntmps6
    go_wp2_with (first
      | (go_at_call 11; refine Calls.mono (alive_is _ HT.out) ?_; rintro e w1 ⟨rfl, hb1⟩; have HB1 := Lib.hid hb1; clear hb1)
      | (go_at_call 17; refine Calls.mono (keys_is A l c _ (HA.out.below HB1.out) hn200 HZ.out (HT.out.below HB1.out)) ?_; rintro e w2 ⟨C, k, rfl, hr, hb2⟩; rw [← HK.out] at hr ⊢; have HB2 := Lib.hid (HB1.out.trans (hb2.mono HB1.out.size)); clear hb2)
      | (go_at_call 18; refine Calls.mono (rkeys_is A l c _ (HA.out.below HB2.out) hn200 HZ.out) ?_; rintro e w3 ⟨C3, k3, rfl, hr3, hb3⟩; rw [← HK.out] at hr3 ⊢; have HR := Lib.hid (hr.out.below hb3); have HB3 := Lib.hid (HB2.out.trans (hb3.mono HB2.out.size)); clear hb3)
      | (go_at_call 16; refine Calls.mono (same_eq C C3 K k k3 _ HR.out hr3.out (by omega)) ?_; rintro e w4 ⟨rfl, hb4⟩))
    go_ret
    exact ⟨rfl, HB3.out.trans (hb4.mono HB3.out.size)⟩
end Go.Proofs.YtgakeclocbfnpaaDoor.T
