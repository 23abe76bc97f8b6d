import Derived.Deep.DeepCutAuto
import Derived.Laws.OwnMore
import Derived.OwnWalk
import Derived.Lib.AppendStr
import Derived.Lib.SliceRun
import Derived.Lib.SmallJoins
import Derived.IntWalk
import Derived.WalkMore
import Derived.Lib.OthersKept
import Derived.Deep.LoopGhost
import Derived.Deep.RegionLaw
import Derived.Deep.AppendLies
import Derived.Test.YtmflalnajinejaaProg
import Derived.Test.YtmflalnajinejaaMem
import Derived.Test.YtmflalnajinejaaBlk
import Derived.Test.YtmflalnajinejaaAp
import Derived.Test.YtmflalnajinejaaKa
import Derived.Test.YtmflalnajinejaaKd
import Derived.Test.YtmflalnajinejaaKl
import Derived.Test.YtmflalnajinejaaOwn
import Derived.Shelf.SlMaps.Clone
import Derived.WalkKit
import Derived.Outline
import Derived.WalkLawsBesides
import Derived.Deep.QuietTactic
import Derived.BigQuiet
import Derived.Lib.Hide
import Derived.Handy
import Derived.Deep.RegionHeld3
import Derived.Deep.DrawnRows
import Derived.KernelRfl
import Derived.Great.Walk
import Derived.Test.YtmflalnajinejaaOwn
namespace Go.Proofs.Ytmflalnajinejaa.T
open Go Go.RowKit Go.Sort Mem Own
set_option maxRecDepth 100000
set_option maxHeartbeats 1000000
set_option linter.unusedVariables false
set_option linter.unusedSimpArgs false

open Go.WideMaps Go.Maps
theorem mclone_is (b : Nat) (es : Array MapEntry) (clock : Nat) (w : World) (hb : w.heap[b]? = some (.map es clock)) :
    Calls Try.prog 32 #[.map (some b)] w fun e w' => e = .returned (.map (some w.heap.size)) ∧ w' = w.alloc (.map es clock) := by
  have hq := fun w => run_eql_map_nil_sl (P := Try.prog) w 51 _ _ (some b) Try.underlying51
  go_enter Try.func32, Try.ntmps32
  go_wp2
  rw [run_callFunc_extern Try.func39 (by kernel_rfl) (by kernel_rfl) (by kernel_rfl) (e := Extern.MapsClone.clone) (by kernel_rfl), run_maps_clone_sl w 51 hb]
  simp only [Result.andThen]
  have ha := fun (w' : World) (v : Value) => run_typeAssert_map_sl (P := Try.prog) (w := w') 51 20 _ _ v Try.underlying51
  go_wp2
  go_ret
  exact ⟨rfl, rfl⟩
/-- Clone -/
theorem clone_is (g b n : Nat) (Q : En → List Lt) (w : World) (h : LK w g b n Q) :
    Calls Try.prog 18 #[.pointer (some ⟨g, 0, none⟩)] w fun e w' => ∃ g' b', e = .returned (.pointer (some ⟨g', 0, none⟩)) ∧ LK w' g' b' n Q ∧ Below w.heap.size w w' ∧ w.heap.size ≤ g' ∧ w.heap.size ≤ b' := by
  obtain ⟨hc, m, ⟨D, ⟨es, ck, hb, hr⟩, hD⟩, hQ⟩ := h
  have HM := Lib.hid (mclone_is b es ck w hb)
  have HB := Lib.hid (show Below w.heap.size w (w.alloc (.map es ck)) from (Below.refl _ w).alloc (Nat.le_refl _) _)
  have HB2 := Lib.hid (show Below w.heap.size w ((w.alloc (.map es ck)).alloc (.cells #[.map (some w.heap.size)] 53)) from HB.out.alloc HB.out.size _)
  have hs : (w.alloc (.map es ck)).heap.size = w.heap.size + 1 := alloc_size _ _
  have HS := Lib.hid hs
  clear hs
  have HD := Lib.hid hD
  have HR := Lib.hid hr
  have HQ := Lib.hid hQ
  clear hr hD hQ hb
  go_enter Try.func18, Try.ntmps18
  go_wp2_with (go_at_call 32; refine Calls.mono HM.out ?_; rintro e w2 ⟨rfl, rfl⟩)
  go_ret
  have h2 := heap_alloc_new (w.alloc (.map es ck)) (.cells #[.map (some w.heap.size)] 53)
  rw [HS.out] at h2
  have h3 : ((w.alloc (.map es ck)).alloc (.cells #[.map (some w.heap.size)] 53)).heap[w.heap.size]? = some (.map es ck) := blk_new (heap_alloc_new w _) _
  refine ⟨w.heap.size + 1, w.heap.size, ?_, ⟨cells1 h2, m, ⟨D, ⟨es, ck, h3, HR.out⟩, HD.out⟩, HQ.out.keeps (keeps_below HB2.out)⟩, HB2.out, by omega, Nat.le_refl _⟩
  simp
end Go.Proofs.Ytmflalnajinejaa.T
