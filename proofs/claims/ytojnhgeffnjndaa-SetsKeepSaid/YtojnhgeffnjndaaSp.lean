import Derived.Test.YtojnhgeffnjndaaProg
import Derived.Test.YtojnhgeffnjndaaShelf
import Derived.Test.YtojnhgeffnjndaaSo
import Derived.WalkKit
import Derived.Outline
import Derived.WalkLawsBesides
import Derived.Deep.QuietTactic
import Derived.BigQuiet
import Derived.Lib.Hide
import Derived.Handy
import Derived.Deep.RegionHeld3
import Derived.Deep.DrawnRows
import Derived.Shelf.Spec.SlicesInsertGrow
import Derived.Sort.OwnSorted
import Derived.Laws.AppendOwnNone
namespace Go.Proofs.Ytojnhgeffnjndaa.T
open Go Go.RowKit Mem Go.Great Go.Sort Go.Lib
set_option maxRecDepth 100000
set_option maxHeartbeats 8000000
set_option linter.unusedVariables false
set_option linter.unusedSimpArgs false



theorem has_any (A : Option Addr) (l : List ByteArray) (c : Nat) (s : ByteArray) (w : World) (ha : Rd w A l) (hn : l.length < 2 ^ 29) :
    Calls Try.prog 23 #[.slice A l.length c, .string s] w fun e w' => ∃ r : Bool, e = .returned (.bool r) ∧ Below w.heap.size w w' := by
  have HS := Lib.hid (search_any A l c s w ha (by omega))
  clear ha
  go_enter Try.func23, Try.ntmps23
  go_wp2_with (go_at_call 37; refine HS.out.mono ?_; rintro e w1 ⟨k, r, rfl, _, _, hb⟩; have HB := Lib.hid hb; clear hb)
  go_ret
  exact ⟨r, rfl, HB.out⟩

theorem without_any (A : Option Addr) (l : List ByteArray) (s : ByteArray) (c : Nat) (w : World) (ha : Rd w A l) (hn : l.length < 2 ^ 29) :
    Calls Try.prog 27 #[.slice A l.length c, .string s] w fun e w' => ∃ v : Value, e = .returned v ∧ Below w.heap.size w w' := by
  have HA := Lib.hid ha
  have HS := Lib.hid (search_any A l c s w ha (by omega))
  clear ha
  go_enter Try.func27, Try.ntmps27
  go_wp2_with (first
    | (go_at_call 37; refine HS.out.mono ?_; rintro e w1 ⟨k, r, rfl, hk, hk2, hb1⟩; have HK := Lib.hid hk2; have HB1 := Lib.hid hb1; clear hk2 hb1)
    | (go_at_call 29; refine (clone_is A l c w1 (HA.out.below HB1.out) (by omega)).mono ?_; rintro e w2 ⟨C, c2, rfl, hown, hb2⟩; have HB2 := Lib.hid hb2; clear hb2)
    | (go_at_call 39; have hk3 : k < l.length := HK.out (by first | assumption | (cases r <;> simp_all)); obtain ⟨g, rfl⟩ := own_addr hown.out (by omega); refine (delete_is _ g c2 k l w2 hown.out hk3).mono ?_; rintro e w3 ⟨rfl, hrd, _, hb3⟩; have HB3 := Lib.hid hb3; clear hrd hb3))
  all_goals go_ret
  all_goals first
    | exact ⟨_, rfl, HB1.out.trans (HB2.out.mono HB1.out.size)⟩
    | exact ⟨_, rfl, HB1.out.trans ((HB2.out.mono HB1.out.size).trans (HB3.out.mono (Nat.le_trans HB1.out.size (hown.out.lt _ rfl).1)))⟩

theorem with_any (A : Option Addr) (l : List ByteArray) (s : ByteArray) (c : Nat) (w : World) (ha : Rd w A l) (hn : l.length < 2 ^ 29) :
    Calls Try.prog 25 #[.slice A l.length c, .string s] w fun e w' => ∃ v : Value, e = .returned v ∧ Below w.heap.size w w' := by
  have HA := Lib.hid ha
  have HS := Lib.hid (search_any A l c s w ha (by omega))
  clear ha
  go_enter Try.func25, Try.ntmps25
  go_wp2_with (first
    | (go_at_call 37; refine HS.out.mono ?_; rintro e w1 ⟨k, r, rfl, hk, hk2, hb1⟩; have HB1 := Lib.hid hb1; clear hk2 hb1)
    | (go_at_call 29; refine (clone_is A l c w1 (HA.out.below HB1.out) (by omega)).mono ?_; rintro e w2 ⟨C, c2, rfl, hown, hb2⟩; have HB2 := Lib.hid hb2; clear hb2)
    | (go_at_call 38; refine (insert_is C c2 k l s w1.heap.size w2 hown.out (by omega) hk HB2.out.size).mono ?_; rintro e w3 ⟨D, c3, rfl, hrd, hb3⟩; have HB3 := Lib.hid hb3; clear hrd hb3))
  all_goals go_ret
  all_goals first
    | exact ⟨_, rfl, HB1.out.trans (HB2.out.mono HB1.out.size)⟩
    | exact ⟨_, rfl, HB1.out.trans ((HB2.out.mono HB1.out.size).trans (HB3.out.mono HB1.out.size))⟩
end Go.Proofs.Ytojnhgeffnjndaa.T
