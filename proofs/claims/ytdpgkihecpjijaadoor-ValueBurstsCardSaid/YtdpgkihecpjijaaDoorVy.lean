import Derived.Deep.DeepCutAuto
import Derived.Laws.OwnMore
import Derived.OwnWalk
import Derived.Lib.AppendStr
import Derived.Laws.IdiomStrings
import Derived.Lib.ConvBytes
import Derived.Lib.SmallJoins
import Derived.IntWalk
import Derived.Deep.AppendLies
import Derived.Deep.RegionLaw
import Derived.Test.YtdpgkihecpjijaaDoorProg
import Derived.Test.YtdpgkihecpjijaaDoorMem
import Derived.Test.YtdpgkihecpjijaaDoorVw
import Derived.Test.YtdpgkihecpjijaaDoorVx
import Derived.WalkKit
import Derived.Outline
import Derived.WalkLawsBesides
import Derived.Deep.QuietTactic
import Derived.BigQuiet
import Derived.Lib.Hide
import Derived.Handy
import Derived.Deep.RegionHeld3
import Derived.Deep.DrawnRows
import Derived.KernelRfl
import Derived.Sort.Walk0
import Derived.Great.Walk
import Derived.Test.YtdpgkihecpjijaaDoorOwn
namespace Go.Proofs.YtdpgkihecpjijaaDoor.T
open Go Go.RowKit Mem Own
set_option maxRecDepth 100000
set_option maxHeartbeats 1000000
set_option linter.unusedVariables false
set_option linter.unusedSimpArgs false

theorem load_as {s : ByteArray} {a : Vl} {c : Int} (w : World) (h : loadV s = (a, c)) (hs : s.size ≤ maxLen) (hh : Hv w) :
    Calls Tryd.prog 15 #[.string s] w fun e w' => ∃ PA pc IA ic, e = .returned (.tuple #[vV a.kind a.text PA a.pairs.length pc IA a.items.length ic a.re a.im, .int .i64 c]) ∧ RowKit.Hid (VRd w' (vV a.kind a.text PA a.pairs.length pc IA a.items.length ic a.re a.im) a) ∧ Below w.heap.size w w' := by
  refine (load_is s w hs hh).mono ?_
  rintro e w' ⟨u, rfl, HU, hb⟩
  rw [h] at HU
  obtain ⟨⟨PA, pc, IA, ic, rfl, -, -⟩, -⟩ := id HU.out
  rw [h]
  exact ⟨PA, pc, IA, ic, rfl, HU, hb⟩
def aliveV : Vl := ⟨1, ⟨#[97, 98]⟩, [], [], 0, 0⟩
theorem alive_dump : dumpB aliveV = [1, 0, 2, 97, 98] ++ sumB (body aliveV) := rfl
/-- alive -/
theorem alive_is (w : World) (hh : Hv w) : Calls Tryd.prog 12 #[] w fun e w' => e = .returned (.bool true) ∧ Below w.heap.size w w' := by
  have HH := Lib.hid hh
  have HR0 := Lib.hid (show RightV aliveV from ⟨rfl, .inl ⟨rfl, by decide⟩⟩)
  have HV0 : RowKit.Hid (∀ w', VRd w' (vV 1 ⟨#[97, 98]⟩ none 0 0 none 0 0 0 0) aliveV) := Lib.hid fun w' => ⟨⟨none, 0, none, 0, rfl, .inl rfl, .inl rfl⟩, Nat.zero_le _, Nat.zero_le _, by decide, (fun _ h => by cases h), (fun _ h => by cases h)⟩
  obtain ⟨s, hs⟩ : ∃ s, s = B (dumpB aliveV) := ⟨_, rfl⟩
  have HL := Lib.hid (show loadV s = (⟨1, ⟨#[97, 98]⟩, [], [], 0, 0⟩, 0) by rw [hs]; exact load_dump aliveV HR0.out)
  have hz : s.size = 7 := by rw [hs]; rfl
  have hx : s.extract 0 5 = ⟨#[1, 0, 2, 97, 98]⟩ := by rw [hs, ext_list, B_list, alive_dump]; generalize sumB (body aliveV) = x; rfl
  have HS := Lib.hid hs
  have hT : typ 1 = ⟨#[115, 116, 114, 105, 110, 103]⟩ := by simp [typ]
  clear hs hh
  have hu := Tryd.underlying25
  go_enter Tryd.func12, Tryd.ntmps12
  go_wp2_with (first
    | (go_at_call 13; refine Calls.mono (dump_is _ aliveV _ (HV0.out _) HR0.out HH.out) ?_; rintro e w1 ⟨rfl, hb1⟩; have hz1 := hb1.size; (try simp at hz1); rw [show (⟨(dumpB aliveV).toArray⟩ : ByteArray) = s from HS.out.symm])
    | (go_at_call 15; refine Calls.mono (load_as _ HL.out (by rw [hz]; decide) (HH.out.below ?_)) ?_; (focus ((repeat (first | exact Below.refl _ _ | (refine Below.drew ?_) | (refine Go.below_drewN ?_ _) | (refine Below.alloc ?_ (by first | (simp; done) | omega | (simp; omega)) _) | (refine Below.setCell ?_ (by first | (simp; done) | omega | (simp; omega)) _) | (refine Below.trans ?_ (Below.mono (by assumption) (by first | (simp; done) | omega | (simp; omega)))))); done)); rintro e w2 ⟨PA, pc, IA, ic, rfl, HU, hb2⟩; have hz2 := hb2.size; (try simp at hz2); dsimp only [List.length_nil] at HU)
    | (go_at_call 22; refine Calls.mono (type_is _ _ _ _ _ _ _ _ _ _ _) ?_; rintro e w3 ⟨rfl, hb3⟩; rw [hT]; have hz3 := hb3.size; rw [alloc_size] at hz3; have HY := Lib.hid (keep_block hb3 (heap_alloc_new _ _)); obtain ⟨e0, e1, e2, e3, e4, e5⟩ := facts6 HY.out)
    | (go_at_call 25; refine Calls.mono (vsame_yes _ _ _ _ _ (HU.out.below ?_) (HU.out.below ?_) rfl) ?_; (focus ((repeat (first | exact Below.refl _ _ | (refine Below.drew ?_) | (refine Go.below_drewN ?_ _) | (refine Below.alloc ?_ (by first | (simp; done) | omega | (simp; omega)) _) | (refine Below.setCell ?_ (by first | (simp; done) | omega | (simp; omega)) _) | (refine Below.trans ?_ (Below.mono (by assumption) (by first | (simp; done) | omega | (simp; omega)))))); done)); (focus ((repeat (first | exact Below.refl _ _ | (refine Below.drew ?_) | (refine Go.below_drewN ?_ _) | (refine Below.alloc ?_ (by first | (simp; done) | omega | (simp; omega)) _) | (refine Below.setCell ?_ (by first | (simp; done) | omega | (simp; omega)) _) | (refine Below.trans ?_ (Below.mono (by assumption) (by first | (simp; done) | omega | (simp; omega)))))); done)); rintro e w4 ⟨rfl, hb4⟩))
  go_ret
  exact ⟨rfl, (by ((repeat (first | exact Below.refl _ _ | (refine Below.drew ?_) | (refine Go.below_drewN ?_ _) | (refine Below.alloc ?_ (by first | (simp; done) | omega | (simp; omega)) _) | (refine Below.setCell ?_ (by first | (simp; done) | omega | (simp; omega)) _) | (refine Below.trans ?_ (Below.mono (by assumption) (by first | (simp; done) | omega | (simp; omega)))))); done))⟩
theorem load_codes (s : ByteArray) : (∃ c, loadV s = (⟨0, ⟨#[]⟩, [], [], 0, 0⟩, c) ∧ (c != 0) = true) ∨ ∃ a, loadV s = (a, 0) := by
  unfold loadV
  split
  · exact .inl ⟨100, rfl, rfl⟩
  · split
    · exact .inl ⟨101, rfl, rfl⟩
    · split
      · exact .inr ⟨_, rfl⟩
      · exact .inl ⟨100, rfl, rfl⟩
/-- ValueAgain -/
theorem again_is (s : ByteArray) (w : World) (hs : s.size ≤ maxLen) (hh : Hv w) : Calls Tryd.prog 7 #[.string s] w fun e w' => e = .returned (.bool true) ∧ Below w.heap.size w w' := by
  have HH := Lib.hid hh
  have hu := Tryd.underlying25
  rcases load_codes s with ⟨c, hl, hc⟩ | ⟨a, hl⟩
  · have HL := Lib.hid hl
    clear hl hh
    go_enter Tryd.func7, Tryd.ntmps7
    go_wp2_with (first
      | (go_at_call 15; refine Calls.mono (load_as _ HL.out hs HH.out) ?_; rintro e w2 ⟨PA, pc, IA, ic, rfl, HU, hb2⟩; have hz2 := hb2.size; (try simp at hz2))
      | (go_at_call 12; refine Calls.mono (alive_is _ (HH.out.below ?_)) ?_; (focus ((repeat (first | exact Below.refl _ _ | (refine Below.drew ?_) | (refine Go.below_drewN ?_ _) | (refine Below.alloc ?_ (by first | (simp; done) | omega | (simp; omega)) _) | (refine Below.setCell ?_ (by first | (simp; done) | omega | (simp; omega)) _) | (refine Below.trans ?_ (Below.mono (by assumption) (by first | (simp; done) | omega | (simp; omega)))))); done)); rintro e w4 ⟨rfl, hb4⟩))
    go_ret
    exact ⟨rfl, (by ((repeat (first | exact Below.refl _ _ | (refine Below.drew ?_) | (refine Go.below_drewN ?_ _) | (refine Below.alloc ?_ (by first | (simp; done) | omega | (simp; omega)) _) | (refine Below.setCell ?_ (by first | (simp; done) | omega | (simp; omega)) _) | (refine Below.trans ?_ (Below.mono (by assumption) (by first | (simp; done) | omega | (simp; omega)))))); done))⟩
  · obtain ⟨hr, hs2⟩ := dump_load hl
    obtain ⟨k, t, ps, is, re, im⟩ := a
    have HL := Lib.hid hl; have HR := Lib.hid hr; have HS := Lib.hid hs2
    clear hl hh hr hs2
    go_enter Tryd.func7, Tryd.ntmps7
    go_wp2_with (first
      | (go_at_call 15; refine Calls.mono (load_as _ HL.out hs HH.out) ?_; rintro e w2 ⟨PA, pc, IA, ic, rfl, HU, hb2⟩; have hz2 := hb2.size; (try simp at hz2))
      | (go_at_call 13; refine Calls.mono (dump_is _ _ _ (HU.out.below ?_) HR.out (HH.out.below ?_)) ?_; (focus ((repeat (first | exact Below.refl _ _ | (refine Below.drew ?_) | (refine Go.below_drewN ?_ _) | (refine Below.alloc ?_ (by first | (simp; done) | omega | (simp; omega)) _) | (refine Below.setCell ?_ (by first | (simp; done) | omega | (simp; omega)) _) | (refine Below.trans ?_ (Below.mono (by assumption) (by first | (simp; done) | omega | (simp; omega)))))); done)); (focus ((repeat (first | exact Below.refl _ _ | (refine Below.drew ?_) | (refine Go.below_drewN ?_ _) | (refine Below.alloc ?_ (by first | (simp; done) | omega | (simp; omega)) _) | (refine Below.setCell ?_ (by first | (simp; done) | omega | (simp; omega)) _) | (refine Below.trans ?_ (Below.mono (by assumption) (by first | (simp; done) | omega | (simp; omega)))))); done)); rintro e w1 ⟨rfl, hb1⟩; have hz1 := hb1.size; (try simp at hz1); rw [show (⟨(dumpB ⟨k, t, ps, is, re, im⟩).toArray⟩ : ByteArray) = s from HS.out.symm])
      | (go_at_call 12; refine Calls.mono (alive_is _ (HH.out.below ?_)) ?_; (focus ((repeat (first | exact Below.refl _ _ | (refine Below.drew ?_) | (refine Go.below_drewN ?_ _) | (refine Below.alloc ?_ (by first | (simp; done) | omega | (simp; omega)) _) | (refine Below.setCell ?_ (by first | (simp; done) | omega | (simp; omega)) _) | (refine Below.trans ?_ (Below.mono (by assumption) (by first | (simp; done) | omega | (simp; omega)))))); done)); rintro e w4 ⟨rfl, hb4⟩))
    go_ret
    exact ⟨rfl, (by ((repeat (first | exact Below.refl _ _ | (refine Below.drew ?_) | (refine Go.below_drewN ?_ _) | (refine Below.alloc ?_ (by first | (simp; done) | omega | (simp; omega)) _) | (refine Below.setCell ?_ (by first | (simp; done) | omega | (simp; omega)) _) | (refine Below.trans ?_ (Below.mono (by assumption) (by first | (simp; done) | omega | (simp; omega)))))); done))⟩
end Go.Proofs.YtdpgkihecpjijaaDoor.T
