import Derived.Deep.DeepCutAuto
import Derived.Laws.OwnMore
import Derived.OwnWalk
import Derived.Lib.AppendStr
import Derived.Lib.SliceRun
import Derived.Lib.SmallJoins
import Derived.IntWalk
import Derived.Lib.ItoaLen
import Derived.WalkMore
import Derived.Lib.OthersKept
import Derived.Laws.Runes
import Derived.Deep.LoopGhost
import Derived.Deep.RegionLaw
import Derived.Deep.AppendLies
import Derived.Test.YteghfinngilfgaaDoorProg
import Derived.Test.YteghfinngilfgaaDoorMem
import Derived.Test.YteghfinngilfgaaDoorYg
import Derived.WalkKit
import Derived.Outline
import Derived.WalkLawsBesides
import Derived.Deep.QuietTactic
import Derived.BigQuiet
import Derived.Lib.Hide
import Derived.Handy
import Derived.Deep.RegionHeld3
import Derived.Deep.DrawnRows
import Derived.KernelRfl
import Derived.Great.Walk
import Derived.Test.YteghfinngilfgaaDoorOwn
namespace Go.Proofs.YteghfinngilfgaaDoor.T
open Go Go.RowKit Go.Sort Mem Own
set_option maxRecDepth 100000
set_option maxHeartbeats 1000000
set_option linter.unusedVariables false
set_option linter.unusedSimpArgs false

/-- Has a text a byte that ends a line? -/
def hasCR (t : ByteArray) : Bool := t.toList.any fun b => (b == 13) || (b == 10)
theorem plain_has (t : ByteArray) : plainB t = (!hasCR t && decide (t.size ≤ 509)) := by
  unfold plainB hasCR
  congr 1
  rw [List.not_any_eq_all_not]
  congr 1
  funext b
  simp [Bool.not_or]
theorem cr_contains (b : UInt8) : ([13, 10] : List UInt8).contains b = ((b == 13) || (b == 10)) := by
  simp only [List.contains, List.elem]
  cases b == 13 <;> cases b == 10 <;> rfl
theorem cr_ascii : ∀ (j : Nat) b, (⟨#[13, 10]⟩ : ByteArray).data.toList[j]? = some b → b.toNat < 128 := by
  intro j b hb
  match j, hb with
  | 0, hb => simp at hb; subst hb; decide
  | 1, hb => simp at hb; subst hb; decide
  | n + 2, hb => simp at hb
theorem any_neg : ∀ {l chars : List UInt8}, Lib.indexAny l chars = -1 → ∀ x ∈ l, chars.contains x = false
  | b :: l, chars, h, x, hx => by
    rw [Lib.indexAny] at h
    cases hc : chars.contains b with
    | true => rw [hc] at h; simp at h
    | false =>
      rw [hc] at h
      have hl : Lib.indexAny l chars = -1 := by
        by_cases h1 : Lib.indexAny l chars = -1
        · exact h1
        · have := Lib.indexAny_ge chars l
          have hb : (Lib.indexAny l chars == -1) = false := by simpa using h1
          rw [hb] at h
          simp at h
          omega
      rcases List.mem_cons.1 hx with rfl | hx
      · exact hc
      · exact any_neg hl x hx
theorem any_none {t : ByteArray} (h : Lib.NoAny t.data.toList [13, 10] t.data.toList.length) : hasCR t = false := by
  unfold hasCR
  rw [List.any_eq_false, ByteArray.toList_eq]
  intro b hb
  obtain ⟨j, hj, rfl⟩ := List.getElem_of_mem hb
  have := h j _ hj (List.getElem?_eq_getElem hj)
  rw [cr_contains] at this
  rw [this]; simp
theorem any_hit {t : ByteArray} {i : Nat} {x : UInt8} (hx : t.data.toList[i]? = some x) (hc : ([13, 10] : List UInt8).contains x = true) : hasCR t = true := by
  unfold hasCR
  rw [List.any_eq_true, ByteArray.toList_eq]
  exact ⟨x, List.mem_of_getElem? hx, by rw [← cr_contains]; exact hc⟩
theorem below_iter {B k p : Nat} {w0 w : World} {s : ByteArray} (h : Below B w0 w) (hk : B ≤ k) : Below B w0 (w.iterAt k s p) :=
  ⟨h.os, h.tape, h.output, by show w0.heap.size ≤ (w.heap.setIfInBounds k _).size; rw [Array.size_setIfInBounds]; exact h.size, fun j hj => by
    show (w.heap.setIfInBounds k _)[j]? = _
    rw [Array.getElem?_setIfInBounds, if_neg (by omega)]; exact h.block j hj⟩
/-- strings.IndexAny of the ends of a line. -/
theorem iany_is (t : ByteArray) (w : World) (ht : t.size < 4294967281) :
    Calls Tryd.prog 38 #[.string t, .string ⟨#[13, 10]⟩] w fun e w' => ∃ n : Int, e = .returned (.int .i64 n) ∧ decide (0 ≤ n) = hasCR t ∧ Below w.heap.size w w' := by
  by_cases h8 : 8 < t.size
  · refine (Tryd.strings_IndexAny_long (zero_of_info (show (Tryd.prog.info? 69).map (fun i => (i.zero, i.size)) = some (some (.agg (Array.replicate 256 (.bool false))), 256) by kernel_rfl)).1 t ⟨#[13, 10]⟩ w (by decide) h8 ht (by decide) cr_ascii).mono ?_
    rintro e w' ⟨rfl, rfl⟩
    refine ⟨_, rfl, ?_, ((Below.refl _ _).alloc (Nat.le_refl _) _).alloc (by rw [alloc_sz]; omega) _⟩
    show decide (0 ≤ Lib.indexAny t.data.toList [13, 10]) = hasCR t
    cases hh : hasCR t with
    | false =>
      have : Lib.indexAny t.data.toList [13, 10] = -1 := by
        apply Lib.indexAny_none
        intro j b hj hb
        cases hc : ([13, 10] : List UInt8).contains b with
        | false => rfl
        | true => rw [any_hit hb hc] at hh; cases hh
      rw [this]; rfl
    | true =>
      have hex : ∃ (j : Nat) (x : UInt8), t.data.toList[j]? = some x ∧ ([13, 10] : List UInt8).contains x = true := by
        unfold hasCR at hh
        rw [List.any_eq_true, ByteArray.toList_eq] at hh
        obtain ⟨x, hx, hc⟩ := hh
        obtain ⟨j, hj⟩ := List.getElem?_of_mem hx
        exact ⟨j, x, hj, by rw [cr_contains]; exact hc⟩
      have hge := Lib.indexAny_ge [13, 10] t.data.toList
      have hne : ¬ Lib.indexAny t.data.toList [13, 10] = -1 := by
        intro h
        obtain ⟨j, x, hj, hc⟩ := hex
        rw [any_neg h x (List.mem_of_getElem? hj)] at hc
        cases hc
      simp; omega
  · have h8b : decide ((8 : Int) < (t.size : Int)) = false := by simp; omega
    have h8c : t.size ≤ 8 := by omega
    clear h8 ht
    go_enter Tryd.func38, Tryd.ntmps38
    go_wp2_with (go_at_call 45; refine (Tryd.strings_shouldUseASCIISet _ _).mono ?_; rintro e w' ⟨rfl, hw⟩; rw [hw, h8b])
    go_loopg [9, 10] t.size (fun g _ _ wx => ∃ i : Nat, i + g = t.size ∧ RowKit.Hid (wx.heap[w.heap.size]? = some (.stringIter t i)) ∧ RowKit.Hid (Below w.heap.size w wx) ∧ RowKit.Hid (Lib.NoAny t.data.toList [13, 10] i))
    case atStart => exact ⟨0, by omega, Lib.hid (heap_alloc_new _ _), Lib.hid ((Below.refl _ _).alloc (Nat.le_refl _) _), Lib.hid (Lib.NoAny.zero _ _)⟩
    case round =>
      obtain ⟨i, hig, HI, HB, HN⟩ := hrel
      cases gk with
      | zero =>
        obtain rfl : i = t.size := by omega
        have hnx := fun ty => Lib.run_next_end_at (P := Tryd.prog) wr w.heap.size t t.size ty HI.out (by omega)
        go_wp2
        go_ret
        exact ⟨-1, rfl, by rw [any_none (by rw [show t.data.toList.length = t.size by simp]; exact HN.out)]; rfl, HB.out⟩
      | succ g =>
        have hi : i < t.size := by omega
        by_cases hx : (t[i]'hi).toNat < 128
        · have hnx := fun ty => Lib.run_next_ascii_at (P := Tryd.prog) wr w.heap.size t i ty HI.out hi hx
          obtain ⟨x, hxe⟩ : ∃ x : UInt8, t[i]'hi = x := ⟨_, rfl⟩
          rw [hxe] at hnx hx
          have HXL := Lib.hid (show t.data.toList[i]? = some x by rw [← hxe]; exact Lib.data_getElem? t i hi)
          have HB1 := Lib.hid (below_iter (k := w.heap.size) (s := t) (p := i + 1) HB.out (Nat.le_refl _))
          have HI1 := Lib.hid (Lib.iterAt_heap wr w.heap.size t i (i + 1) HI.out)
          have hcon := Lib.contains_iff_indexByte ([13, 10] : List UInt8) x
          have hback : ((x.toNat : Int)).toNat.toUInt8 = x := by simp
          clear hxe
          cases hin : ([13, 10] : List UInt8).contains x with
          | false =>
            rw [hin] at hcon
            have hlt : ¬ ((0 : Int) ≤ Lib.indexByte ([13, 10] : List UInt8) x) := of_decide_eq_false hcon.symm
            have HN1 := Lib.hid (HN.out.succ HXL.out hin)
            clear hcon hin
            go_wp2_with (go_at_call 44; refine (Tryd.strings_IndexRune_ascii _ _ _ (by omega) (by omega)).mono ?_; rintro e w' ⟨rfl, hw⟩; rw [hw, hback])
            go_roundg g
            case measure => omega
            case rel => exact ⟨i + 1, by omega, HI1, HB1, HN1⟩
          | true =>
            rw [hin] at hcon
            have hge : (0 : Int) ≤ Lib.indexByte ([13, 10] : List UInt8) x := of_decide_eq_true hcon.symm
            have HH := Lib.hid (any_hit HXL.out hin)
            clear hcon hin
            go_wp2_with (go_at_call 44; refine (Tryd.strings_IndexRune_ascii _ _ _ (by omega) (by omega)).mono ?_; rintro e w' ⟨rfl, hw⟩; rw [hw, hback])
            go_ret
            exact ⟨(i : Int), rfl, by rw [HH.out]; simp, HB1.out⟩
        · have hnx := fun ty => Lib.run_next_any_at (P := Tryd.prog) wr w.heap.size t i ty HI.out hi
          have hhi := decode_high t i hi (by omega)
          have hle := decode_le t i
          have HSP := Lib.hid (decode_span hi (by omega))
          have hspan := HSP.out.1
          obtain ⟨r, hr⟩ : ∃ r, (Utf8.decode t i).1 = r := ⟨_, rfl⟩
          obtain ⟨d, hd⟩ : ∃ d, (Utf8.decode t i).2 = d := ⟨_, rfl⟩
          rw [hr, hd] at hnx
          rw [hr, hd] at hhi
          rw [hr] at hle
          rw [hd] at hspan HSP
          clear hr hd
          have HB1 := Lib.hid (below_iter (k := w.heap.size) (s := t) (p := i + d) HB.out (Nat.le_refl _))
          have HI1 := Lib.hid (Lib.iterAt_heap wr w.heap.size t i (i + d) HI.out)
          have HN1 := Lib.hid (show Lib.NoAny t.data.toList [13, 10] (i + d) by
            intro j b hj hb
            by_cases hji : j < i
            · exact HN.out j b hji hb
            · have hjs : j < t.size := by omega
              have h128 := HSP.out.2 j hjs (by omega) hj
              have : b = t[j]'hjs := by rw [Lib.data_getElem? t j hjs] at hb; exact (Option.some.inj hb).symm
              rw [cr_contains, this]
              have e1 : ((t[j]'hjs) == 13) = false := by rw [beq_eq_false_iff_ne]; intro e; rw [e] at h128; simp at h128
              have e2 : ((t[j]'hjs) == 10) = false := by rw [beq_eq_false_iff_ne]; intro e; rw [e] at h128; simp at h128
              rw [e1, e2]; rfl)
          go_wp2_with (go_at_call 44; refine (irune_high _ _ (by omega) (by omega)).mono ?_; (rintro e w2 ⟨rfl, hb2⟩; have HI2 := Lib.hid (keep_blk hb2 HI1.out); have HB2 := Lib.hid (HB1.out.trans (hb2.mono HB1.out.size)); clear hb2))
          go_roundg (t.size - (i + d))
          case measure => omega
          case rel => exact ⟨i + d, by omega, HI2, HB2, HN1⟩
/-- strings.ContainsAny of the ends of a line. -/
theorem cany_is (t : ByteArray) (w : World) (ht : t.size < 4294967281) :
    Calls Tryd.prog 28 #[.string t, .string ⟨#[13, 10]⟩] w fun e w' => e = .returned (.bool (hasCR t)) ∧ Below w.heap.size w w' := by
  go_enter Tryd.func28, Tryd.ntmps28
  go_wp2_with (go_at_call 38; refine (iany_is t _ ht).mono ?_; (rintro e w1 ⟨n, rfl, hn, hb⟩; have HN := Lib.hid hn; clear hn))
  go_ret
  exact ⟨by rw [← HN.out]; rfl, hb⟩
end Go.Proofs.YteghfinngilfgaaDoor.T
