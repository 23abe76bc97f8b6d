import Derived.Deep.DeepCutAuto
import Derived.Laws.OwnMore
import Derived.OwnWalk
import Derived.Lib.AppendStr
import Derived.Lib.SliceRun
import Derived.Lib.SmallJoins
import Derived.IntWalk
import Derived.Lib.ItoaLen
import Derived.WalkMore
import Derived.Lib.AtoiAllCases
import Derived.Lib.OthersKept
import Derived.Laws.Runes
import Derived.Deep.LoopGhost
import Derived.Deep.RegionLaw
import Derived.Deep.AppendLies
import Derived.Test.YthncmfchphigdaaDoorProg
import Derived.Test.YthncmfchphigdaaDoorMem
import Derived.Test.YthncmfchphigdaaDoorBlk
import Derived.Test.YthncmfchphigdaaDoorLb
import Derived.Lib.TrimU
import Derived.Lib.TrimAscii
import Derived.WalkKit
import Derived.Outline
import Derived.WalkLawsBesides
import Derived.Deep.QuietTactic
import Derived.BigQuiet
import Derived.Lib.Hide
import Derived.Handy
import Derived.Deep.RegionHeld3
import Derived.Deep.DrawnRows
import Derived.KernelRfl
import Derived.Great.Walk
import Derived.Test.YthncmfchphigdaaDoorOwn
namespace Go.Proofs.YthncmfchphigdaaDoor.T
open Go Go.RowKit Go.Sort Mem Own
set_option maxRecDepth 100000
set_option maxHeartbeats 1000000
set_option linter.unusedVariables false
set_option linter.unusedSimpArgs false

/-- Is a rune one of the signs? -/
def sgR (r : Nat) : Bool := decide (r < 128) && SG.contains r.toUInt8
theorem irune_any (r : Nat) (w : World) (hr : r ≤ 1114111) :
    Calls Tryd.prog 40 #[.string ⟨#[43, 45]⟩, .int .i32 (r : Int)] w fun e w' => ∃ k : Int, e = .returned (.int .i64 k) ∧ decide (0 ≤ k) = sgR r ∧ Below w.heap.size w w' := by
  by_cases h : r < 128
  · refine (Tryd.strings_IndexRune_ascii ⟨#[43, 45]⟩ (r : Int) w (by omega) (by omega)).mono fun e w' hh => ⟨_, hh.1, ?_, by rw [hh.2]; exact Below.refl _ _⟩
    unfold sgR
    rw [decide_eq_true h, Bool.true_and]
    exact (Lib.contains_iff_indexByte SG _).symm
  · refine (irune_high (r : Int) w (by omega) (by omega)).mono fun e w' hh => ⟨-1, hh.1, ?_, hh.2⟩
    unfold sgR
    rw [decide_eq_false h]
    rfl
theorem sgR_byte (b : UInt8) (h : b.toNat < 128) : sgR b.toNat = SG.contains b := by
  unfold sgR; rw [decide_eq_true h]; simp
theorem liap_no {s : ByteArray} (h : ∀ (j : Nat) (b : UInt8), (∀ b ∈ s.toList, b.toNat < 128) → s.toList[j]? = some b → SG.contains b = false) : LiaP s (-1) :=
  ⟨⟨by omega, by omega⟩, fun ha => .inl ⟨rfl, fun b hb => by obtain ⟨j, hj⟩ := List.getElem?_of_mem hb; exact h j b ha hj⟩⟩
theorem ext_list (s : ByteArray) (m : Nat) : (s.extract 0 m).toList = s.toList.take m := by
  rw [ByteArray.toList_eq, ByteArray.toList_eq, ByteArray.data_extract, Array.toList_extract, List.extract_eq_take_drop]
  simp
theorem dl_ascii {l : List UInt8} {i : Nat} (h0 : 0 < i) (hi : i ≤ l.length) (ha : ∀ b ∈ l, b.toNat < 128) : Lib.decodeLastL (l.take i) = ((l[i - 1]'(by omega)).toNat, 1) := by
  obtain ⟨k, rfl⟩ : ∃ k, i = k + 1 := ⟨i - 1, by omega⟩
  rw [List.take_succ_eq_append_getElem (by omega)]
  exact Lib.decodeLastL_ascii _ _ (ha _ (List.getElem_mem _))
set_option maxHeartbeats 8000000 in
theorem lia_short (s : ByteArray) (w : World) (h8 : s.size ≤ 8) (hT : Lib.Utf8Tabs 4 5 w) :
    Calls Tryd.prog 34 #[.string s, .string ⟨#[43, 45]⟩] w fun e w' => ∃ k : Int, e = .returned (.int .i64 k) ∧ LiaP s k ∧ Below w.heap.size w w' := by
  have h8z : decide ((8 : Int) < (s.size : Int)) = false := decide_eq_false (by omega)
  have HT := Lib.hid hT
  clear hT
  by_cases h1 : s.size = 1
  · have h1b : ((s.size : Int) == 1) = true := by simp; omega
    have hp : 0 < s.size := by omega
    obtain ⟨b, hb⟩ : ∃ b, s[0]'hp = b := ⟨_, rfl⟩
    have HB := Lib.hid (show s.toList = [b] by
      apply List.ext_getElem?
      intro j
      match j with
      | 0 => rw [ba_get hp, hb]; rfl
      | j + 1 => rw [List.getElem?_eq_none (by rw [toList_len]; omega)]; rfl)
    have hb2 := UInt8.toNat_lt b
    by_cases h128 : b.toNat < 128
    · have hd : decide ((128 : Int) ≤ (b.toNat : Int)) = false := by simp; omega
      have HI := Lib.hid (fun (wx : World) => irune_any b.toNat wx (by omega))
      have HSG := Lib.hid (sgR_byte b h128)
      generalize sgR b.toNat = sg at HI HSG
      go_enter Tryd.func34, Tryd.ntmps34
      cases sg with
      | true =>
        go_wp2_with (go_at_call 40; refine Calls.mono (HI.out _) ?_; (rintro e w1 ⟨k, rfl, hk, hb1⟩; have HB1 := Lib.hid hb1; clear hb1))
        go_ret
        exact ⟨0, rfl, ⟨⟨by omega, by omega⟩, fun _ => .inr ⟨0, rfl, ⟨b, by rw [HB.out]; rfl, HSG.out.symm⟩, fun j b' hj hb' => by rw [HB.out, List.getElem?_eq_none (by simp; omega)] at hb'; cases hb'⟩⟩, HB1.out⟩
      | false =>
        go_wp2_with (go_at_call 40; refine Calls.mono (HI.out _) ?_; (rintro e w1 ⟨k, rfl, hk, hb1⟩; have HB1 := Lib.hid hb1; clear hb1))
        go_ret
        exact ⟨-1, rfl, liap_no fun j b' _ hb' => by
          have := List.mem_of_getElem? hb'
          rw [HB.out, List.mem_singleton] at this
          rw [this]; exact HSG.out.symm, HB1.out⟩
    · have hd : decide ((128 : Int) ≤ (b.toNat : Int)) = true := by simp; omega
      have HI := Lib.hid (fun (wx : World) => (irune_any 65533 wx (by omega)))
      have hsg : sgR 65533 = false := by decide
      rw [hsg] at HI
      have HN := Lib.hid (show ¬ ∀ b ∈ s.toList, b.toNat < 128 from fun h => h128 (h b (by rw [HB.out]; simp)))
      go_enter Tryd.func34, Tryd.ntmps34
      go_wp2_with (go_at_call 40; refine Calls.mono (HI.out _) ?_; (rintro e w1 ⟨k, rfl, hk, hb1⟩; have HB1 := Lib.hid hb1; clear hb1))
      go_ret
      exact ⟨-1, rfl, liap_no fun j b' ha _ => absurd ha HN.out, HB1.out⟩
  have h1b : ((s.size : Int) == 1) = false := by simp; omega
  clear h1
  go_enter Tryd.func34, Tryd.ntmps34
  go_wp2_with (go_at_call 41; refine (Tryd.strings_shouldUseASCIISet _ _).mono ?_; rintro e w' ⟨rfl, hw⟩; rw [hw, h8z])
  go_loopw [13] (fun s13 wx => ∃ i : Nat, s13 = .int .i64 (i : Int) ∧ i ≤ s.size ∧ RowKit.Hid (∀ (j : Nat) (b : UInt8), (∀ b ∈ s.toList, b.toNat < 128) → i ≤ j → s.toList[j]? = some b → SG.contains b = false) ∧ RowKit.Hid (Below w.heap.size w wx)) (fun s13 _ => (intOf s13).toNat)
  case atStart => exact ⟨s.size, rfl, Nat.le_refl _, Lib.hid (fun j b _ hj hb => by have := (List.getElem?_eq_some_iff.1 hb).1; rw [toList_len] at this; omega), Lib.hid (Below.refl _ _)⟩
  case round =>
    obtain ⟨i, rfl, hi, HN, HB⟩ := hrel
    have hzr := HB.out.size
    by_cases h0 : i = 0
    · subst h0
      go_wp2
      go_ret
      exact ⟨-1, rfl, liap_no fun j b ha hb => HN.out j b ha (Nat.zero_le _) hb, HB.out⟩
    · have h0b : decide ((0 : Int) < (i : Int)) = true := by simp; omega
      obtain ⟨P, hP⟩ : ∃ P, s.extract 0 i = P := ⟨_, rfl⟩
      have hPl : P.data.toList = s.toList.take i := by rw [← ByteArray.toList_eq, ← hP, ext_list]
      have hPz : P.size ≤ 8 := by rw [← hP]; simp; omega
      have hlen : (s.toList.take i).length = i := by simp [toList_len]; omega
      have hw := Lib.decodeLastL_width (s.toList.take i) (by omega)
      have hr := Lib.decodeLastL_rune (s.toList.take i)
      have HD := Lib.hid (show ∀ wx : World, Lib.Utf8Tabs 4 5 wx → Calls Tryd.prog 44 #[.string P] wx (fun e w' => e = .returned (.tuple #[.int .i32 ((Lib.decodeLastL (s.toList.take i)).1 : Int), .int .i64 ((Lib.decodeLastL (s.toList.take i)).2 : Int)]) ∧ Below wx.heap.size wx w') from fun wx hT => by
        have := Tryd.utf8_DecodeLastRuneInString P wx (by omega) hT
        rw [hPl] at this
        exact this)
      have HA := Lib.hid (show (∀ b ∈ s.toList, b.toNat < 128) → ∃ b, s.toList[i - 1]? = some b ∧ (Lib.decodeLastL (s.toList.take i)).1 = b.toNat ∧ (Lib.decodeLastL (s.toList.take i)).2 = 1 from fun ha => by
        have hil : i ≤ s.toList.length := by rw [toList_len]; exact hi
        rw [dl_ascii (by omega) hil ha]
        exact ⟨_, List.getElem?_eq_getElem (by omega), rfl, rfl⟩)
      rw [hlen] at hw
      generalize (Lib.decodeLastL (s.toList.take i)).1 = r at HD HA hr
      generalize (Lib.decodeLastL (s.toList.take i)).2 = dd at HD HA hw
      have HI := Lib.hid (fun (wx : World) => irune_any r wx hr)
      obtain ⟨sg, hsg⟩ : ∃ sg, sgR r = sg := ⟨_, rfl⟩
      rw [hsg] at HI
      have HSG := Lib.hid hsg
      have hdi : (i : Int) - (dd : Int) = ((i - dd : Nat) : Int) := by omega
      have HDI := Lib.hid hdi
      clear hPl hlen hsg hdi
      cases sg with
      | true =>
        go_wp2_with (first
          | (go_at_call 44; (try rw [hP]); refine Calls.mono (HD.out _ (Utf8Tabs_below HT.out HB.out)) ?_; (rintro e w1 ⟨rfl, hb1⟩; have HB1 := Lib.hid (HB.out.trans (hb1.mono hzr)); clear hb1))
          | (go_at_call 40; refine Calls.mono (HI.out _) ?_; (rintro e w2 ⟨k, rfl, hk, hb2⟩; have HB2 := Lib.hid (HB1.out.trans (hb2.mono HB1.out.size)); clear hb2)))
        go_ret
        refine ⟨((i - dd : Nat) : Int), by rw [← HDI.out]; rfl, ⟨⟨by omega, by omega⟩, fun ha => ?_⟩, HB2.out⟩
        obtain ⟨b, hb, e1, e2⟩ := HA.out ha
        refine .inr ⟨i - 1, by omega, ⟨b, hb, ?_⟩, fun j b' hj hb' => HN.out j b' ha (by omega) hb'⟩
        rw [← sgR_byte b (ha b (List.mem_of_getElem? hb)), ← e1]; exact HSG.out
      | false =>
        go_wp2_with (first
          | (go_at_call 44; (try rw [hP]); refine Calls.mono (HD.out _ (Utf8Tabs_below HT.out HB.out)) ?_; (rintro e w1 ⟨rfl, hb1⟩; have HB1 := Lib.hid (HB.out.trans (hb1.mono hzr)); clear hb1))
          | (go_at_call 40; refine Calls.mono (HI.out _) ?_; (rintro e w2 ⟨k, rfl, hk, hb2⟩; have HB2 := Lib.hid (HB1.out.trans (hb2.mono HB1.out.size)); clear hb2)))
        refine ⟨⟨i - dd, by rw [HDI.out], by omega, Lib.hid fun j b ha hj hb => ?_, HB2⟩, by simp [intOf]; omega⟩
        obtain ⟨b', hb', e1, e2⟩ := HA.out ha
        rcases Nat.lt_or_ge j i with h | h
        · obtain rfl : j = i - 1 := by omega
          have hbb : b' = b := by rw [hb'] at hb; exact Option.some.inj hb
          rw [← hbb, ← sgR_byte b' (ha b' (List.mem_of_getElem? hb')), ← e1]; exact HSG.out
        · exact HN.out j b ha h hb
/-- strings.LastIndexAny of the signs, in any text. -/
theorem lia_any (s : ByteArray) (w : World) (hs : s.size ≤ 9223372036854775807) (hT : Lib.Utf8Tabs 4 5 w) :
    Calls Tryd.prog 34 #[.string s, .string ⟨#[43, 45]⟩] w fun e w' => ∃ k : Int, e = .returned (.int .i64 k) ∧ LiaP s k ∧ Below w.heap.size w w' := by
  by_cases h : 8 < s.size
  · exact lia_long s w h hs
  · exact lia_short s w (by omega) hT
end Go.Proofs.YthncmfchphigdaaDoor.T
