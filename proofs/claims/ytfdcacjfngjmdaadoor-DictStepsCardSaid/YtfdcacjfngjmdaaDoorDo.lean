import Derived.Deep.DeepCutAuto
import Derived.Laws.OwnMore
import Derived.OwnWalk
import Derived.Lib.AppendStr
import Derived.Lib.SliceRun
import Derived.Lib.SmallJoins
import Derived.IntWalk
import Derived.WalkMore
import Derived.Lib.OthersKept
import Derived.Deep.LoopGhost
import Derived.Deep.RegionLaw
import Derived.Deep.AppendLies
import Derived.Test.YtfdcacjfngjmdaaDoorProg
import Derived.Test.YtfdcacjfngjmdaaDoorMem
import Derived.Test.YtfdcacjfngjmdaaDoorBlk
import Derived.Test.YtfdcacjfngjmdaaDoorAp
import Derived.Test.YtfdcacjfngjmdaaDoorDn
import Derived.WalkKit
import Derived.Outline
import Derived.WalkLawsBesides
import Derived.Deep.QuietTactic
import Derived.BigQuiet
import Derived.Lib.Hide
import Derived.Handy
import Derived.Deep.RegionHeld3
import Derived.Deep.DrawnRows
import Derived.KernelRfl
import Derived.Great.Walk
import Derived.Test.YtfdcacjfngjmdaaDoorOwn
namespace Go.Proofs.YtfdcacjfngjmdaaDoor.T
open Go Go.RowKit Go.Sort Mem Own
set_option maxRecDepth 100000
set_option maxHeartbeats 1000000
set_option linter.unusedVariables false
set_option linter.unusedSimpArgs false

/-- The names of alive. -/
def nm (i : Nat) : ByteArray := ⟨#[UInt8.ofNat (97 + i)]⟩
def mi : Nat → Dm
  | 0 => Dm.new
  | i + 1 => (mi i).step.put (nm i) (.int .i64 (i : Int))
theorem mi_inv : ∀ i, Inv i (mi i)
  | 0 => Inv.new
  | i + 1 => (put_get (mi_inv i).step (.int .i64 (i : Int)) rfl (by show 1 ≤ maxLen; decide)).1
theorem mi_shape : (mi 5).shape = (8, 4, 0, 5) := by kernel_rfl
theorem mi_get : (mi 5).get (nm 4) = some (.int .i64 4) := by
  have := (put_get (mi_inv 4).step (t := nm 4) (.int .i64 ((4 : Nat) : Int)) rfl (by show 1 ≤ maxLen; decide)).2 (nm 4)
  rw [if_pos rfl] at this
  exact this
/-- The owner function, anew for what is not there yet. -/
def owc (ow : Ow) (n : Nat) : Ow := fun b => if b < n then ow b else (0, 0, 0)
theorem DR.owc {w : World} {B D TR TI g gn go : Nat} {ow : Ow} {m : Dm} {nv ov : List Value} (h : DR w B D TR TI g ow m gn go nv ov) : DR w B D TR TI g (owc ow w.heap.size) m gn go nv ov :=
  h.keep ⟨Nat.le_refl _, fun _ _ _ => rfl⟩ fun b hb => by unfold Go.Proofs.YtfdcacjfngjmdaaDoor.T.owc; rw [if_pos hb]
theorem nm_at : ∀ i : Nat, i < 5 → (#[.string ⟨#[97]⟩, .string ⟨#[98]⟩, .string ⟨#[99]⟩, .string ⟨#[100]⟩, .string ⟨#[101]⟩] : Array Value)[i]? = some (.string (nm i))
  | 0, _ => by kernel_rfl
  | 1, _ => by kernel_rfl
  | 2, _ => by kernel_rfl
  | 3, _ => by kernel_rfl
  | 4, _ => by kernel_rfl
  | i + 5, h => by omega
/-- alive: a dict that grows. -/
theorem alive_is (w : World) (hh : Hv w) : Calls Tryd.prog 10 #[] w fun e w' => e = .returned (.bool true) ∧ Below w.heap.size w w' := by
  have h0 : 0 < w.heap.size := lt_of_cell (hh 0 (by decide))
  have HNW := Lib.hid (newI_is w.heap.size (fun _ => (0, 0, 0)) w (Nat.le_refl _))
  have HH := Lib.hid hh
  have HM := Lib.hid mi_inv
  clear hh
  go_enter Tryd.func10, Tryd.ntmps10
  go_upto_region 4 with (go_at_call 13; refine Calls.mono HNW.out ?_; rintro e w1 ⟨g, b1, ow1, rfl, hg, hd1, hc1⟩; have HD1 := Lib.hid hd1.owc; have HC1 := Lib.hid hc1.below; clear hd1 hc1)
  clear HNW
  have hz1 := HC1.out.size
  have HN := Lib.hid (new1 w1 #[.string ⟨#[97]⟩, .string ⟨#[98]⟩, .string ⟨#[99]⟩, .string ⟨#[100]⟩, .string ⟨#[101]⟩] 9)
  go_wp2_with fail
  go_loopw [13] (fun s13 wr => ∃ (i : Nat) (ow2 : Ow) (gn go : Nat) (nv ov : List Value), i ≤ 5 ∧ s13 = .int .i64 i ∧ RowKit.Hid (DR wr w.heap.size 75 81 80 g ow2 (mi i) gn go nv ov) ∧ RowKit.Hid ((ow2 w1.heap.size).1 = 0 ∧ wr.heap[w1.heap.size]? = some (.cells #[.string ⟨#[97]⟩, .string ⟨#[98]⟩, .string ⟨#[99]⟩, .string ⟨#[100]⟩, .string ⟨#[101]⟩] 9 (0, 0))) ∧ RowKit.Hid (Below w.heap.size w wr)) (fun s13 _ => 5 - (intOf s13).toNat)
  case atStart => exact ⟨0, _, b1, 0, _, _, Nat.zero_le _, rfl, Lib.hid (HD1.out.below HN.out.2), Lib.hid ⟨by unfold owc; rw [if_neg (by omega)], HN.out.1⟩, Lib.hid (HC1.out.trans (HN.out.2.mono hz1))⟩
  case round =>
    obtain ⟨i, ow2, gn, go, nv, ov, hi5, rfl, HDR, HBK, HB⟩ := hrel
    have hzr := HB.out.size
    have hh2 := HH.out.keep HB.out h0
    by_cases hlt : i < 5
    · have HP := Lib.hid (putI_is w.heap.size g gn go i ow2 (mi i) nv ov (nm i) (i : Int) wr HDR.out (HM.out i) (HM.out i).step (by omega) (by show 1 ≤ 9223372036854775807; decide) hh2 h0)
      have hc : wr.cell? ⟨w1.heap.size, i, none⟩ = some (.string (nm i)) := by
        rw [of_blk HBK.out.2]; exact nm_at i hlt
      generalize hn : nm i = n at HP hc
      have HNM := Lib.hid hn
      clear hn hh2
      go_wp2_with (go_at_call 15; refine Calls.mono HP.out ?_; rintro e w2 ⟨rfl, ow3, gn3, go3, nv3, ov3, hd3, hc3⟩; have HD3 := Lib.hid hd3; have HC3 := Lib.hid hc3; clear hd3 hc3)
      have hlb := lt_of_blk HBK.out.2
      refine ⟨⟨i + 1, ow3, gn3, go3, nv3, ov3, by omega, by go_num, Lib.hid (by have := HD3.out; rw [← HNM.out] at this; exact this), Lib.hid ⟨by rw [HC3.out.tags _ hlb]; exact HBK.out.1, by rw [HC3.out.rest _ hlb (by rw [HBK.out.1]; omega)]; exact HBK.out.2⟩, Lib.hid (HB.out.trans HC3.out.below)⟩, by simp [intOf]; omega⟩
    · obtain rfl : i = 5 := by omega
      have HR := Lib.hid (fun (wx : World) (hd : DR wx w.heap.size 75 81 80 g ow2 (mi 5) gn go nv ov) => rooms_is w.heap.size g gn go 5 ow2 (mi 5) nv ov wx hd (HM.out 5) (by omega))
      have HG := Lib.hid (fun (wx : World) (hd : DR wx w.heap.size 75 81 80 g ow2 (mi 5) gn go nv ov) (hv : Hv wx) => getI_is w.heap.size g gn go 5 ow2 (mi 5) nv ov ⟨#[101]⟩ wx hd (HM.out 5) (by omega) (by decide) hv)
      have HL := Lib.hid (fun (wx : World) (hd : DR wx w.heap.size 75 81 80 g ow2 (mi 5) gn go nv ov) => lenI_is w.heap.size g gn go ow2 (mi 5) nv ov wx hd)
      have hshape := mi_shape
      unfold Dm.shape at hshape
      injection hshape with e1 e2
      injection e2 with e2 e3
      injection e3 with e3 e4
      have hget : (mi 5).gets ⟨#[101]⟩ (.int .i64 0) = (.int .i64 4, true) := by
        unfold Dm.gets
        rw [show (⟨#[101]⟩ : ByteArray) = nm 4 by kernel_rfl, mi_get]
      rw [e1, e2, e3] at HR
      rw [hget] at HG
      rw [e4] at HL
      have HV := Lib.hid hh2
      clear e1 e2 e3 e4 hget hh2 HM HN
      generalize mi 5 = m5 at HDR HR HG HL
      go_wp2_with (first
        | (go_at_call 19; refine Calls.mono (HR.out _ HDR.out) ?_; rintro e w4 ⟨rfl, hb4⟩; have HB4 := Lib.hid (HB.out.trans (hb4.mono hzr)); have HD4 := Lib.hid (HDR.out.below hb4); have hz4 := HB4.out.size; clear hb4)
        | (go_at_call 16; refine Calls.mono (HG.out _ HD4.out (HH.out.keep HB4.out h0)) ?_; rintro e w5 ⟨rfl, hb5⟩; have HB5 := Lib.hid (HB4.out.trans (hb5.mono hz4)); have HD5 := Lib.hid (HD4.out.below hb5); clear hb5)
        | (go_at_call 20; refine Calls.mono (HL.out _ HD5.out) ?_; rintro e w6 ⟨rfl, rfl⟩))
      go_ret
      exact ⟨rfl, HB5.out⟩
end Go.Proofs.YtfdcacjfngjmdaaDoor.T
