import Derived.Deep.DeepCutAuto
import Derived.Laws.OwnMore
import Derived.OwnWalk
import Derived.Lib.AppendStr
import Derived.Lib.SliceRun
import Derived.Lib.SmallJoins
import Derived.IntWalk
import Derived.Lib.ItoaLen
import Derived.WalkMore
import Derived.Lib.AtoiAllCases
import Derived.Lib.OthersKept
import Derived.Laws.Runes
import Derived.Deep.LoopGhost
import Derived.Deep.RegionLaw
import Derived.Deep.AppendLies
import Derived.Test.YteghfinngilfgaaDoorProg
import Derived.Test.YteghfinngilfgaaDoorMem
import Derived.Test.YteghfinngilfgaaDoorYo
import Derived.WalkKit
import Derived.Outline
import Derived.WalkLawsBesides
import Derived.Deep.QuietTactic
import Derived.BigQuiet
import Derived.Lib.Hide
import Derived.Handy
import Derived.Deep.RegionHeld3
import Derived.Deep.DrawnRows
import Derived.KernelRfl
import Derived.Great.Walk
import Derived.Test.YteghfinngilfgaaDoorOwn
namespace Go.Proofs.YteghfinngilfgaaDoor.T
open Go Go.RowKit Go.Sort Mem Own
set_option maxRecDepth 100000
set_option maxHeartbeats 1000000
set_option linter.unusedVariables false
set_option linter.unusedSimpArgs false

theorem ba_list {a b : ByteArray} (h : a.toList = b.toList) : a = b := ba_inj h
/-- The list of a text's front. -/
theorem ext_list (s : ByteArray) (m : Nat) : (s.extract 0 m).toList = s.toList.take m := by
  rw [ByteArray.toList_eq, ByteArray.toList_eq, ByteArray.data_extract, Array.toList_extract, List.extract_eq_take_drop]
  simp
/-- reply.number of a numeral. -/
theorem number_ok (n least most : Int) (w : World) (h0 : -9223372036854775808 ≤ n) (h1 : n ≤ 9223372036854775807) (hl : least ≤ n) (hm : n ≤ most) (hT : Tab w) :
    Calls Tryd.prog 35 #[.string (dec n), .int .i64 least, .int .i64 most] w fun e w' => e = .returned (.tuple #[.int .i64 n, .int .i64 0]) ∧ Below w.heap.size w w' := by
  have HT := Lib.hid hT
  have HA := Lib.hid (fun (wx : World) => (Tryd.strconv_Atoi_ok (dec n) (by have := dec_size n h0 h1; omega) n (by show Lib.atoiAll (Lib.itoa n) = .ok n; exact atoi_itoa n h0 h1) wx).mono (R' := fun e w' => e = .returned (.tuple #[.int .i64 n, .nilIface]) ∧ Below wx.heap.size wx w') (fun e w' h => ⟨h.1, by
    rcases h.2 with h | ⟨t, h⟩
    · rw [h]; exact Below.refl _ _
    · rw [h]; exact Joins.below_bytesWorld _ _ _ _ (Nat.le_refl _)⟩))
  have hlb : decide (n < least) = false := by simpa using hl
  have hmb : decide (most < n) = false := by simpa using hm
  clear hT
  go_enter Tryd.func35, Tryd.ntmps35
  go_wp2_with (first
    | (go_at_call 43; refine Calls.mono (HA.out _) ?_; (rintro e w1 ⟨rfl, hb1⟩; have HB1 := Lib.hid hb1; clear hb1))
    | (go_at_call 29; refine Calls.mono (itoa_is n _ h0 h1 (HT.out.keep HB1.out)) ?_; (rintro e w2 ⟨rfl, hb2⟩; have HB2 := Lib.hid (HB1.out.trans (hb2.mono HB1.out.size)); clear hb2)))
  go_ret2
  exact ⟨rfl, HB2.out⟩
/-- reply.line of a line that is there, and one that is not. -/
theorem line_ok (L : List UInt8) (s : ByteArray) (rest : List UInt8) (w : World) (hs : s.toList = L ++ (13 :: 10 :: rest)) (hp : ∀ b ∈ L, ¬ b = 13 ∧ ¬ b = 10) (hl : L.length ≤ 510) (hsz : s.size ≤ 9223372036854775807) :
    Calls Tryd.prog 34 #[.string s] w fun e w' => e = .returned (.tuple #[.string ⟨L.toArray⟩, .int .i64 ((L.length : Int) + 2), .int .i64 0]) ∧ Below w.heap.size w w' := by
  have hls := toList_len s
  have hlen : s.size = L.length + 2 + rest.length := by rw [← hls, hs]; simp; omega
  obtain ⟨m, hm⟩ : ∃ m : Nat, m = min s.size 512 := ⟨_, rfl⟩
  have hmin : min (s.size : Int) 512 = (m : Int) := by omega
  have hms : m ≤ s.size := by omega
  have hmL : L.length + 2 ≤ m := by omega
  have hix : Lib.indexByte (s.extract 0 m).data.toList 10 = (L.length : Int) + 1 := by
    have e1 : (s.extract 0 m).data.toList = (L ++ [13]) ++ 10 :: (rest.take (m - (L.length + 2))) := by
      rw [← ByteArray.toList_eq, ext_list, hs]
      have e2 : L ++ 13 :: 10 :: rest = (L ++ [13, 10]) ++ rest := by simp
      have e3 : m = (L ++ [13, 10]).length + (m - (L.length + 2)) := by simp; omega
      rw [e2, e3, List.take_length_add_append]
      simp
    rw [e1, ix_hit (by intro b hb; rcases List.mem_append.1 hb with h | h; exact (hp b h).2; simp at h; subst h; decide)]
    simp
  have HI := Lib.hid (fun (wx : World) => (Tryd.strings_IndexByte (s.extract 0 m) 10 wx).mono (R' := fun e w' => e = .returned (.int .i64 ((L.length : Int) + 1)) ∧ wx = w') (fun e w' h => ⟨by rw [h.1]; show Ending.returned (.int .i64 (Lib.indexByte (s.extract 0 m).data.toList 10)) = _; rw [hix], h.2.symm⟩))
  have hcs : (s.extract 0 (L.length + 1 + 1)).data.toList = L ++ [13, 10] := by
    rw [← ByteArray.toList_eq, ext_list, hs]
    have e2 : L ++ 13 :: 10 :: rest = (L ++ [13, 10]) ++ rest := by simp
    rw [e2, List.take_left' (by simp)]
  have hsf : Lib.hasSuffix (L ++ [13, 10]) [13, 10] = true := by
    show List.isSuffixOf [13, 10] (L ++ [13, 10]) = true
    rw [List.isSuffixOf_iff_suffix]; exact List.suffix_append _ _
  have htr : Lib.trimSuffix (L ++ [13, 10]) [13, 10] = L := by
    unfold Lib.trimSuffix; rw [if_pos hsf]; simp
  have HC := Lib.hid (fun (wx : World) => (Tryd.strings_CutSuffix (s.extract 0 (L.length + 1 + 1)) ⟨#[13, 10]⟩ wx (by simp; omega)).mono (R' := fun e w' => e = .returned (.tuple #[.string ⟨L.toArray⟩, .bool true]) ∧ wx = w') (fun e w' h => ⟨by rw [h.1, hcs]; show Ending.returned (.tuple #[.string ⟨(Lib.trimSuffix (L ++ [13, 10]) [13, 10]).toArray⟩, .bool (Lib.hasSuffix (L ++ [13, 10]) [13, 10])]) = _; rw [htr, hsf], h.2.symm⟩))
  have hcr : hasCR ⟨L.toArray⟩ = false := by
    unfold hasCR; rw [List.any_eq_false]; intro b hb
    have hb' : b ∈ L := by rw [ByteArray.toList_eq] at hb; simpa using hb
    simp [hp b hb']
  have HN := Lib.hid (fun (wx : World) => (cany_is ⟨L.toArray⟩ wx (by show L.toArray.size < _; simp; omega)).mono (R' := fun e w' => e = .returned (.bool false) ∧ Below wx.heap.size wx w') (fun e w' h => by rw [hcr] at h; exact h))
  have HL := Lib.hid hlen
  have HP := Lib.hid hp
  clear hix hm hlen hcs hsf htr hcr hp
  go_enter Tryd.func34, Tryd.ntmps34
  go_wp2_with (first
    | (go_at_call 33; refine Calls.mono (HI.out _) ?_; rintro e w1 ⟨rfl, rfl⟩)
    | (go_at_call 42; refine Calls.mono (HC.out _) ?_; rintro e w1 ⟨rfl, rfl⟩)
    | (go_at_call 28; refine Calls.mono (HN.out _) ?_; (rintro e w1 ⟨rfl, hb1⟩; have HB1 := Lib.hid hb1; clear hb1)))
  go_ret3
  exact ⟨rfl, HB1.out⟩
theorem line_short (s : ByteArray) (w : World) (hp : ∀ b ∈ s.toList, ¬ b = 10) (hl : s.size ≤ 511) :
    Calls Tryd.prog 34 #[.string s] w fun e w' => e = .returned (.tuple #[.string ⟨#[]⟩, .int .i64 0, .int .i64 40]) ∧ Below w.heap.size w w' := by
  have hix : Lib.indexByte s.data.toList 10 = -1 := ix_none (by rw [← ByteArray.toList_eq]; exact hp)
  have HI := Lib.hid (fun (wx : World) => (Tryd.strings_IndexByte s 10 wx).mono (R' := fun e w' => e = .returned (.int .i64 (-1)) ∧ wx = w') (fun e w' h => ⟨by rw [h.1]; show Ending.returned (.int .i64 (Lib.indexByte s.data.toList 10)) = _; rw [hix], h.2.symm⟩))
  have hmin : min (s.size : Int) 512 = (s.size : Int) := by omega
  have hex : s.extract 0 s.size = s := by simp
  have h512 : decide ((512 : Int) ≤ (s.size : Int)) = false := by simp; omega
  clear hix hp
  go_enter Tryd.func34, Tryd.ntmps34
  go_wp2_with (go_at_call 33; (try rw [hex]); refine Calls.mono (HI.out _) ?_; rintro e w1 ⟨rfl, rfl⟩)
  go_ret3
  exact ⟨rfl, Below.refl _ _⟩
end Go.Proofs.YteghfinngilfgaaDoor.T
