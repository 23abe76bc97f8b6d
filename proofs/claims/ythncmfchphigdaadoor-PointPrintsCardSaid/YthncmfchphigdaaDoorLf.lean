import Derived.Deep.DeepCutAuto
import Derived.Laws.OwnMore
import Derived.OwnWalk
import Derived.Lib.AppendStr
import Derived.Lib.SliceRun
import Derived.Lib.SmallJoins
import Derived.IntWalk
import Derived.Lib.ItoaLen
import Derived.WalkMore
import Derived.Lib.AtoiAllCases
import Derived.Lib.OthersKept
import Derived.Laws.Runes
import Derived.Deep.LoopGhost
import Derived.Deep.RegionLaw
import Derived.Deep.AppendLies
import Derived.Test.YthncmfchphigdaaDoorProg
import Derived.Test.YthncmfchphigdaaDoorMem
import Derived.Test.YthncmfchphigdaaDoorBlk
import Derived.Test.YthncmfchphigdaaDoorLe
import Derived.WalkKit
import Derived.Outline
import Derived.WalkLawsBesides
import Derived.Deep.QuietTactic
import Derived.BigQuiet
import Derived.Lib.Hide
import Derived.Handy
import Derived.Deep.RegionHeld3
import Derived.Deep.DrawnRows
import Derived.KernelRfl
import Derived.Great.Walk
import Derived.Test.YthncmfchphigdaaDoorOwn
namespace Go.Proofs.YthncmfchphigdaaDoor.T
open Go Go.RowKit Go.Sort Mem Own
set_option maxRecDepth 100000
set_option maxHeartbeats 1000000
set_option linter.unusedVariables false
set_option linter.unusedSimpArgs false

/-- The number that digits are. -/
def val (l : List UInt8) : Nat := l.foldl (fun a b => a * 10 + (b.toNat - 48)) 0
theorem val_snoc (l : List UInt8) (b : UInt8) : val (l ++ [b]) = val l * 10 + (b.toNat - 48) := by simp [val]
theorem val_dec : ∀ u : Nat, val (Lib.decDigits u) = u := by
  intro u
  induction u using Nat.strongRecOn with
  | _ u ih =>
    have hb : ∀ k, k < 10 → (UInt8.ofNat (48 + k)).toNat = 48 + k := fun k hk => by rw [UInt8.toNat_ofNat']; omega
    rw [Lib.decDigits]
    split
    · rename_i h
      simp [val]
      omega
    · rename_i h
      rw [val_snoc, ih (u / 10) (by omega), hb _ (by omega)]
      omega
theorem val_le : ∀ (r l : List UInt8), val l ≤ val (l ++ r)
  | [], l => by simp
  | b :: r, l => by
    have h1 := val_le r (l ++ [b])
    rw [val_snoc] at h1
    rw [show l ++ b :: r = l ++ [b] ++ r by simp]
    omega
theorem val_take (l : List UInt8) (k : Nat) : val (l.take k) ≤ val l := by
  conv => rhs; rw [← List.take_append_drop k l]
  exact val_le _ _
/-- Does a text begin with a minus? -/
def neg1 (s : ByteArray) : Nat := if s.toList.head? = some 45 then 1 else 0
theorem itoa_facts {s : ByteArray} {v : Int} (hv : -1048576 ≤ v ∧ v ≤ 1048576) (h : s.toList = Lib.itoa v) :
    (∀ (j : Nat) (b : UInt8), neg1 s ≤ j → s.toList[j]? = some b → 48 ≤ b.toNat ∧ b.toNat ≤ 57) ∧ (val (s.toList.drop (neg1 s)) : Int) = (if neg1 s = 1 then -v else v) ∧ neg1 s < s.size ∧ s.size ≤ 8 ∧ val (s.toList.drop (neg1 s)) ≤ 1048576 := by
  have hl := dec_right hv
  have hz : s.size = (Lib.itoa v).length := by rw [← toList_len, h]
  by_cases hn : v < 0
  · obtain ⟨u, rfl⟩ : ∃ u : Nat, v = -(u : Int) := ⟨v.natAbs, by omega⟩
    rw [Lib.itoa_neg u (by omega)] at h hz
    have h1 : neg1 s = 1 := by unfold neg1; rw [h]; rfl
    have hd := List.length_pos_iff.2 (decDigits_ne u)
    rw [h1, h]
    simp only [List.drop_succ_cons, List.drop_zero, if_true]
    refine ⟨fun j b hj hb => ?_, by rw [val_dec]; omega, by rw [hz]; simp; omega, by rw [hz]; rw [Lib.itoa_neg u (by omega)] at hl; exact hl, by rw [val_dec]; omega⟩
    obtain ⟨j', rfl⟩ : ∃ j', j = j' + 1 := ⟨j - 1, by omega⟩
    simp only [List.getElem?_cons_succ] at hb
    exact decDigits_dig u b (List.mem_of_getElem? hb)
  · obtain ⟨u, rfl⟩ : ∃ u : Nat, v = (u : Int) := ⟨v.toNat, by omega⟩
    rw [Lib.itoa_nonneg] at h hz
    have hd := List.length_pos_iff.2 (decDigits_ne u)
    have h1 : neg1 s = 0 := by
      unfold neg1
      rw [if_neg]
      rw [h]
      intro e
      have := decDigits_dig u 45 (List.mem_of_head? e)
      simp at this
    rw [h1, h]
    simp only [List.drop_zero]
    refine ⟨fun j b _ hb => decDigits_dig u b (List.mem_of_getElem? hb), by rw [val_dec]; simp, by rw [hz]; omega, by rw [hz]; rw [Lib.itoa_nonneg] at hl; exact hl, by rw [val_dec]; omega⟩
/-- What ref04.whole tells. -/
def WSpec (s : ByteArray) (e : Ending) : Prop := ∃ (n : Int) (ok : Bool), e = .returned (.tuple #[.int .i64 n, .bool ok]) ∧ (-9223372036854775808 ≤ n ∧ n ≤ 9223372036854775807) ∧ ∀ v : Int, -1048576 ≤ v ∧ v ≤ 1048576 → s.toList = Lib.itoa v → n = v ∧ ok = true
theorem wspec_no {s : ByteArray} (h : ∀ v : Int, -1048576 ≤ v ∧ v ≤ 1048576 → ¬ s.toList = Lib.itoa v) : WSpec s (.returned (.tuple #[.int .i64 0, .bool false])) := ⟨0, false, rfl, by decide, fun v hv e => absurd e (h v hv)⟩
set_option maxHeartbeats 4000000 in
theorem whole_0 (s : ByteArray) (w : World) (hI : neg1 s = 0) (h0 : 0 < s.size) (hs : s.size ≤ 1000000000000000000) (h45 : ¬ s[0]'h0 = 45) :
    Calls Tryd.prog 49 #[.string s] w fun e w' => WSpec s e ∧ Below w.heap.size w w' := by
  have HF := Lib.hid (fun (v : Int) (hv : -1048576 ≤ v ∧ v ≤ 1048576) (h : s.toList = Lib.itoa v) => itoa_facts hv h)
  rw [hI] at HF
  clear hI
  have h0b : decide ((0 : Int) < (s.size : Int)) = true := by simp; omega
  obtain ⟨b0, hg⟩ : ∃ b0, s[0]'h0 = b0 := ⟨_, rfl⟩
  have hb0 : ((b0.toNat : Int) == 45) = false := by
    rw [hg] at h45
    simp only [beq_eq_false_iff_ne, ne_eq]; intro h; exact h45 (UInt8.toNat_inj.1 (by show b0.toNat = 45; omega))
  by_cases hbad : s.size = 0 ∨ 20 < s.size
  · have HNO := Lib.hid (show ∀ v : Int, -1048576 ≤ v ∧ v ≤ 1048576 → ¬ s.toList = Lib.itoa v from fun v hv h => by obtain ⟨-, -, h3, h4, -⟩ := HF.out v hv h; omega)
    clear HF
    by_cases h1 : s.size = 0
    · have h1b : ((0 : Int) == (s.size : Int)) = true := by simp; omega
      go_enter Tryd.func49, Tryd.ntmps49
      go_wp2
      go_ret2
      exact ⟨wspec_no HNO.out, Below.refl _ _⟩
    · have h1b : ((0 : Int) == (s.size : Int)) = false := by simp; omega
      have h2b : decide ((20 : Int) < (s.size : Int)) = true := by simp; omega
      go_enter Tryd.func49, Tryd.ntmps49
      go_wp2
      go_ret2
      exact ⟨wspec_no HNO.out, Below.refl _ _⟩
  have h1b : ((0 : Int) == (s.size : Int)) = false := by simp; omega
  have h2b : decide ((20 : Int) < (s.size : Int)) = false := by simp; omega
  have hs20 : s.size ≤ 20 := by omega
  have hsI : 0 ≤ s.size := by omega
  clear hbad
  go_enter Tryd.func49, Tryd.ntmps49
  go_wp2_with fail
  go_loopw [4, 6] (fun s4 s6 wr => ∃ (n : Int) (k : Nat), s4 = .int .i64 n ∧ s6 = .int .i64 (k : Int) ∧ 0 ≤ k ∧ k ≤ s.size ∧ -9223372036854775808 ≤ n ∧ n ≤ 0 ∧ wr = w ∧ RowKit.Hid (n = -((val ((s.toList.drop 0).take (k - 0)) : Nat) : Int))) (fun _ s6 _ => s.size - (intOf s6).toNat)
  case atStart => exact ⟨0, 0, rfl, rfl, Nat.le_refl _, hsI, by omega, by omega, rfl, Lib.hid (by simp [val])⟩
  case round =>
    obtain ⟨n, k, rfl, rfl, hIk, hks, hn0, hn1, rfl, HV⟩ := hrel
    by_cases hlt : k < s.size
    · have hltb : decide ((k : Int) < (s.size : Int)) = true := by simp; omega
      have hlti : (k : Int) < (s.size : Int) := by omega
      obtain ⟨b, hgb⟩ : ∃ b, s[k]'hlt = b := ⟨_, rfl⟩
      have HGB := Lib.hid (show s.toList[k]? = some b by rw [ba_get hlt, hgb])
      have hb256 := UInt8.toNat_lt b
      have HV2 := Lib.hid (show ∀ v : Int, -1048576 ≤ v ∧ v ≤ 1048576 → s.toList = Lib.itoa v → -1048576 ≤ n ∧ 48 ≤ b.toNat ∧ b.toNat ≤ 57 from fun v hv h => by
        obtain ⟨h3, -, -, -, h5⟩ := HF.out v hv h
        have h6 := val_take (s.toList.drop 0) (k - 0)
        have h7 := h3 k b hIk HGB.out
        have h8 := HV.out
        exact ⟨by omega, h7.1, h7.2⟩)
      by_cases hd : b.toNat < 48 ∨ 57 < b.toNat
      · have HNO := Lib.hid (show ∀ v : Int, -1048576 ≤ v ∧ v ≤ 1048576 → ¬ s.toList = Lib.itoa v from fun v hv h => by have := HV2.out v hv h; omega)
        by_cases h48 : b.toNat < 48
        · have h48b : decide ((b.toNat : Int) < 48) = true := by simp; omega
          go_wp2
          go_ret2
          exact ⟨wspec_no HNO.out, Below.refl _ _⟩
        · have h48b : decide ((b.toNat : Int) < 48) = false := by simp; omega
          have h57b : decide ((57 : Int) < (b.toNat : Int)) = true := by simp; omega
          go_wp2
          go_ret2
          exact ⟨wspec_no HNO.out, Below.refl _ _⟩
      · have h48b : decide ((b.toNat : Int) < 48) = false := by simp; omega
        have h57b : decide ((57 : Int) < (b.toNat : Int)) = false := by simp; omega
        have hd0 : 48 ≤ b.toNat := by omega
        have hd9 : b.toNat ≤ 57 := by omega
        clear hd
        by_cases hov : n < -922337203685477580 ∨ (n = -922337203685477580 ∧ 8 < (b.toNat : Int) - 48)
        · have HNO := Lib.hid (show ∀ v : Int, -1048576 ≤ v ∧ v ≤ 1048576 → ¬ s.toList = Lib.itoa v from fun v hv h => by have := HV2.out v hv h; omega)
          by_cases ho : n < -922337203685477580
          · have hob : decide (n < -922337203685477580) = true := by simpa using ho
            go_wp2
            go_ret2
            exact ⟨wspec_no HNO.out, Below.refl _ _⟩
          · have hob : decide (n < -922337203685477580) = false := by simpa using ho
            have hoe : (n == -922337203685477580) = true := by simp; omega
            have ho8 : decide ((8 : Int) < (b.toNat : Int) - 48) = true := by simp; omega
            go_wp2
            go_ret2
            exact ⟨wspec_no HNO.out, Below.refl _ _⟩
        · have hob : decide (n < -922337203685477580) = false := by simp; omega
          have HVN := Lib.hid (show n * 10 - ((b.toNat : Int) - 48) = -((val ((s.toList.drop 0).take (k + 1 - 0)) : Nat) : Int) by
            rw [show k + 1 - 0 = (k - 0) + 1 by omega, List.take_succ_eq_append_getElem (by rw [List.length_drop, toList_len]; omega), val_snoc, HV.out]
            have e : (s.toList.drop 0)[k - 0]'(by rw [List.length_drop, toList_len]; omega) = b := by
              rw [List.getElem_drop]
              have := HGB.out
              rw [List.getElem?_eq_getElem (by rw [toList_len]; omega)] at this
              rw [← Option.some.inj this]
              congr 1
              omega
            rw [e]
            omega)
          have hm1 : -9223372036854775808 ≤ n * 10 - ((b.toNat : Int) - 48) := by omega
          by_cases hoe : n = -922337203685477580
          · have hoeb : (n == -922337203685477580) = true := by simp; omega
            have ho8 : decide ((8 : Int) < (b.toNat : Int) - 48) = false := by simp; omega
            go_wp2_with fail
            exact ⟨⟨_, k + 1, rfl, by go_num, by omega, by omega, by omega, by omega, by first | rfl | trivial, Lib.hid (by have := HVN.out; omega)⟩, by simp [intOf]; omega⟩
          · have hoeb : (n == -922337203685477580) = false := by simp; omega
            go_wp2_with fail
            exact ⟨⟨_, k + 1, rfl, by go_num, by omega, by omega, by omega, by omega, by first | rfl | trivial, Lib.hid (by have := HVN.out; omega)⟩, by simp [intOf]; omega⟩
    · have hltb : decide ((k : Int) < (s.size : Int)) = false := by simp; omega
      have HVE := Lib.hid (show n = -((val (s.toList.drop 0) : Nat) : Int) by
        have h := HV.out
        rw [List.take_of_length_le (by rw [List.length_drop, toList_len]; omega)] at h
        exact h)
      by_cases hm : n = -9223372036854775808
      · subst hm
        have HNO := Lib.hid (show ∀ v : Int, -1048576 ≤ v ∧ v ≤ 1048576 → ¬ s.toList = Lib.itoa v from fun v hv h => by obtain ⟨-, -, -, -, h5⟩ := HF.out v hv h; have := HVE.out; omega)
        go_wp2
        go_ret2
        exact ⟨wspec_no HNO.out, Below.refl _ _⟩
      · have hmb : (n == -9223372036854775808) = false := by simp; omega
        have hq1 : -9223372036854775808 ≤ -n := by omega
        have hq2 : -n ≤ 9223372036854775807 := by omega
        have HD := Lib.hid (fun (wx : World) => digits_is (-n) wx hq1 hq2)
        have HEQ := Lib.hid (show ∀ v : Int, -1048576 ≤ v ∧ v ≤ 1048576 → s.toList = Lib.itoa v → -n = v ∧ ((decB (-n)).toList == s.toList) = true from fun v hv h => by
          obtain ⟨-, h2, -, -, -⟩ := HF.out v hv h
          have h3 := HVE.out
          rw [if_neg (by decide)] at h2
          have h4 : -n = v := by omega
          exact ⟨h4, by rw [h4, h]; simp [decB, ByteArray.toList_eq]⟩)
        have hwr : IntKind.i64.wrap (-n) = -n := IntWalk.i64_in _ ⟨by omega, by omega⟩
        go_wp2_with (go_at_call 37; refine Calls.mono (HD.out _) ?_; (rintro e w1 ⟨rfl, hb1⟩; have HB1 := Lib.hid hb1; clear hb1))
        go_ret2
        exact ⟨⟨-n, _, rfl, ⟨hq1, hq2⟩, HEQ.out⟩, HB1.out⟩
set_option maxHeartbeats 4000000 in
theorem whole_1 (s : ByteArray) (w : World) (hI : neg1 s = 1) (h0 : 0 < s.size) (hs : s.size ≤ 1000000000000000000) (hg : s[0]'h0 = 45) :
    Calls Tryd.prog 49 #[.string s] w fun e w' => WSpec s e ∧ Below w.heap.size w w' := by
  have HF := Lib.hid (fun (v : Int) (hv : -1048576 ≤ v ∧ v ≤ 1048576) (h : s.toList = Lib.itoa v) => itoa_facts hv h)
  rw [hI] at HF
  clear hI
  have h0b : decide ((0 : Int) < (s.size : Int)) = true := by simp; omega

  by_cases hbad : s.size = 1 ∨ 20 < s.size
  · have HNO := Lib.hid (show ∀ v : Int, -1048576 ≤ v ∧ v ≤ 1048576 → ¬ s.toList = Lib.itoa v from fun v hv h => by obtain ⟨-, -, h3, h4, -⟩ := HF.out v hv h; omega)
    clear HF
    by_cases h1 : s.size = 1
    · have h1b : ((1 : Int) == (s.size : Int)) = true := by simp; omega
      go_enter Tryd.func49, Tryd.ntmps49
      go_wp2
      go_ret2
      exact ⟨wspec_no HNO.out, Below.refl _ _⟩
    · have h1b : ((1 : Int) == (s.size : Int)) = false := by simp; omega
      have h2b : decide ((20 : Int) < (s.size : Int)) = true := by simp; omega
      go_enter Tryd.func49, Tryd.ntmps49
      go_wp2
      go_ret2
      exact ⟨wspec_no HNO.out, Below.refl _ _⟩
  have h1b : ((1 : Int) == (s.size : Int)) = false := by simp; omega
  have h2b : decide ((20 : Int) < (s.size : Int)) = false := by simp; omega
  have hs20 : s.size ≤ 20 := by omega
  have hsI : 1 ≤ s.size := by omega
  clear hbad
  go_enter Tryd.func49, Tryd.ntmps49
  go_wp2_with fail
  go_loopw [4, 6] (fun s4 s6 wr => ∃ (n : Int) (k : Nat), s4 = .int .i64 n ∧ s6 = .int .i64 (k : Int) ∧ 1 ≤ k ∧ k ≤ s.size ∧ -9223372036854775808 ≤ n ∧ n ≤ 0 ∧ wr = w ∧ RowKit.Hid (n = -((val ((s.toList.drop 1).take (k - 1)) : Nat) : Int))) (fun _ s6 _ => s.size - (intOf s6).toNat)
  case atStart => exact ⟨0, 1, rfl, rfl, Nat.le_refl _, hsI, by omega, by omega, rfl, Lib.hid (by simp [val])⟩
  case round =>
    obtain ⟨n, k, rfl, rfl, hIk, hks, hn0, hn1, rfl, HV⟩ := hrel
    by_cases hlt : k < s.size
    · have hltb : decide ((k : Int) < (s.size : Int)) = true := by simp; omega
      have hlti : (k : Int) < (s.size : Int) := by omega
      obtain ⟨b, hgb⟩ : ∃ b, s[k]'hlt = b := ⟨_, rfl⟩
      have HGB := Lib.hid (show s.toList[k]? = some b by rw [ba_get hlt, hgb])
      have hb256 := UInt8.toNat_lt b
      have HV2 := Lib.hid (show ∀ v : Int, -1048576 ≤ v ∧ v ≤ 1048576 → s.toList = Lib.itoa v → -1048576 ≤ n ∧ 48 ≤ b.toNat ∧ b.toNat ≤ 57 from fun v hv h => by
        obtain ⟨h3, -, -, -, h5⟩ := HF.out v hv h
        have h6 := val_take (s.toList.drop 1) (k - 1)
        have h7 := h3 k b hIk HGB.out
        have h8 := HV.out
        exact ⟨by omega, h7.1, h7.2⟩)
      by_cases hd : b.toNat < 48 ∨ 57 < b.toNat
      · have HNO := Lib.hid (show ∀ v : Int, -1048576 ≤ v ∧ v ≤ 1048576 → ¬ s.toList = Lib.itoa v from fun v hv h => by have := HV2.out v hv h; omega)
        by_cases h48 : b.toNat < 48
        · have h48b : decide ((b.toNat : Int) < 48) = true := by simp; omega
          go_wp2
          go_ret2
          exact ⟨wspec_no HNO.out, Below.refl _ _⟩
        · have h48b : decide ((b.toNat : Int) < 48) = false := by simp; omega
          have h57b : decide ((57 : Int) < (b.toNat : Int)) = true := by simp; omega
          go_wp2
          go_ret2
          exact ⟨wspec_no HNO.out, Below.refl _ _⟩
      · have h48b : decide ((b.toNat : Int) < 48) = false := by simp; omega
        have h57b : decide ((57 : Int) < (b.toNat : Int)) = false := by simp; omega
        have hd0 : 48 ≤ b.toNat := by omega
        have hd9 : b.toNat ≤ 57 := by omega
        clear hd
        by_cases hov : n < -922337203685477580 ∨ (n = -922337203685477580 ∧ 8 < (b.toNat : Int) - 48)
        · have HNO := Lib.hid (show ∀ v : Int, -1048576 ≤ v ∧ v ≤ 1048576 → ¬ s.toList = Lib.itoa v from fun v hv h => by have := HV2.out v hv h; omega)
          by_cases ho : n < -922337203685477580
          · have hob : decide (n < -922337203685477580) = true := by simpa using ho
            go_wp2
            go_ret2
            exact ⟨wspec_no HNO.out, Below.refl _ _⟩
          · have hob : decide (n < -922337203685477580) = false := by simpa using ho
            have hoe : (n == -922337203685477580) = true := by simp; omega
            have ho8 : decide ((8 : Int) < (b.toNat : Int) - 48) = true := by simp; omega
            go_wp2
            go_ret2
            exact ⟨wspec_no HNO.out, Below.refl _ _⟩
        · have hob : decide (n < -922337203685477580) = false := by simp; omega
          have HVN := Lib.hid (show n * 10 - ((b.toNat : Int) - 48) = -((val ((s.toList.drop 1).take (k + 1 - 1)) : Nat) : Int) by
            rw [show k + 1 - 1 = (k - 1) + 1 by omega, List.take_succ_eq_append_getElem (by rw [List.length_drop, toList_len]; omega), val_snoc, HV.out]
            have e : (s.toList.drop 1)[k - 1]'(by rw [List.length_drop, toList_len]; omega) = b := by
              rw [List.getElem_drop]
              have := HGB.out
              rw [List.getElem?_eq_getElem (by rw [toList_len]; omega)] at this
              rw [← Option.some.inj this]
              congr 1
              omega
            rw [e]
            omega)
          have hm1 : -9223372036854775808 ≤ n * 10 - ((b.toNat : Int) - 48) := by omega
          by_cases hoe : n = -922337203685477580
          · have hoeb : (n == -922337203685477580) = true := by simp; omega
            have ho8 : decide ((8 : Int) < (b.toNat : Int) - 48) = false := by simp; omega
            go_wp2_with fail
            exact ⟨⟨_, k + 1, rfl, by go_num, by omega, by omega, by omega, by omega, by first | rfl | trivial, Lib.hid (by have := HVN.out; omega)⟩, by simp [intOf]; omega⟩
          · have hoeb : (n == -922337203685477580) = false := by simp; omega
            go_wp2_with fail
            exact ⟨⟨_, k + 1, rfl, by go_num, by omega, by omega, by omega, by omega, by first | rfl | trivial, Lib.hid (by have := HVN.out; omega)⟩, by simp [intOf]; omega⟩
    · have hltb : decide ((k : Int) < (s.size : Int)) = false := by simp; omega
      have HVE := Lib.hid (show n = -((val (s.toList.drop 1) : Nat) : Int) by
        have h := HV.out
        rw [List.take_of_length_le (by rw [List.length_drop, toList_len]; omega)] at h
        exact h)
      have hq2 : n ≤ 9223372036854775807 := by omega
      have HD := Lib.hid (fun (wx : World) => digits_is n wx hn0 hq2)
      have HEQ := Lib.hid (show ∀ v : Int, -1048576 ≤ v ∧ v ≤ 1048576 → s.toList = Lib.itoa v → n = v ∧ ((decB n).toList == s.toList) = true from fun v hv h => by
        obtain ⟨-, h2, -, -, -⟩ := HF.out v hv h
        have h3 := HVE.out
        rw [if_pos (by trivial)] at h2
        have h4 : n = v := by omega
        exact ⟨h4, by rw [h4, h]; simp [decB, ByteArray.toList_eq]⟩)
      go_wp2_with (go_at_call 37; refine Calls.mono (HD.out _) ?_; (rintro e w1 ⟨rfl, hb1⟩; have HB1 := Lib.hid hb1; clear hb1))
      go_ret2
      exact ⟨⟨n, _, rfl, ⟨hn0, hq2⟩, HEQ.out⟩, HB1.out⟩
theorem whole_any (s : ByteArray) (w : World) (hs : s.size ≤ 1000000000000000000) :
    Calls Tryd.prog 49 #[.string s] w fun e w' => WSpec s e ∧ Below w.heap.size w w' := by
  by_cases h0 : 0 < s.size
  · have e : s.toList.head? = some (s[0]'h0) := by
      have e1 : s.toList.head? = s.toList[0]? := by cases s.toList <;> rfl
      rw [e1, ba_get h0]
    by_cases h45 : s[0]'h0 = 45
    · exact whole_1 s w (by unfold neg1; rw [e, h45, if_pos rfl]) h0 hs h45
    · exact whole_0 s w (by unfold neg1; rw [e, if_neg (by intro h; exact h45 (Option.some.inj h))]) h0 hs h45
  · have hz : s.size = 0 := by omega
    have HNO := Lib.hid (show ∀ v : Int, -1048576 ≤ v ∧ v ≤ 1048576 → ¬ s.toList = Lib.itoa v from fun v hv h => by have := (itoa_facts hv h).2.2.1; omega)
    have hzi : (s.size : Int) = 0 := by omega
    go_enter Tryd.func49, Tryd.ntmps49
    go_wp2
    all_goals
      go_ret2
      exact ⟨wspec_no HNO.out, Below.refl _ _⟩
/-- ref04.Whole -/
theorem Whole_any (s : ByteArray) (w : World) (hs : s.size ≤ 1000000000000000000) :
    Calls Tryd.prog 38 #[.string s] w fun e w' => WSpec s e ∧ Below w.heap.size w w' := by
  have H := Lib.hid (fun (wx : World) => (whole_any s wx hs).mono (R' := fun e w' => ∃ (n : Int) (ok : Bool), e = .returned (.tuple #[.int .i64 n, .bool ok]) ∧ ((-9223372036854775808 ≤ n ∧ n ≤ 9223372036854775807) ∧ ∀ v : Int, -1048576 ≤ v ∧ v ≤ 1048576 → s.toList = Lib.itoa v → n = v ∧ ok = true) ∧ Below wx.heap.size wx w') (fun e w' h => by
    obtain ⟨⟨n, ok, h1, h2⟩, h3⟩ := h
    exact ⟨n, ok, h1, h2, h3⟩))
  go_enter Tryd.func38, Tryd.ntmps38
  go_wp2_with (go_at_call 49; refine Calls.mono (H.out _) ?_; (rintro e w1 ⟨n, ok, rfl, hn, hb1⟩; have HB1 := Lib.hid hb1; have HNN := Lib.hid hn; clear hb1 hn))
  go_ret2
  exact ⟨⟨n, ok, rfl, HNN.out⟩, HB1.out⟩
end Go.Proofs.YthncmfchphigdaaDoor.T
