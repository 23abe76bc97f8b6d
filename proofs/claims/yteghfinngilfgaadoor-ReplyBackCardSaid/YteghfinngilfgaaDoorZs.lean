import Derived.Deep.DeepCutAuto
import Derived.Laws.OwnMore
import Derived.OwnWalk
import Derived.Lib.AppendStr
import Derived.Lib.SliceRun
import Derived.Lib.SmallJoins
import Derived.IntWalk
import Derived.Lib.ItoaLen
import Derived.WalkMore
import Derived.Lib.AtoiAllCases
import Derived.Lib.OthersKept
import Derived.Laws.Runes
import Derived.Deep.LoopGhost
import Derived.Deep.RegionLaw
import Derived.Deep.AppendLies
import Derived.Test.YteghfinngilfgaaDoorProg
import Derived.Test.YteghfinngilfgaaDoorMem
import Derived.Test.YteghfinngilfgaaDoorZp
import Derived.WalkKit
import Derived.Outline
import Derived.WalkLawsBesides
import Derived.Deep.QuietTactic
import Derived.BigQuiet
import Derived.Lib.Hide
import Derived.Handy
import Derived.Deep.RegionHeld3
import Derived.Deep.DrawnRows
import Derived.KernelRfl
import Derived.Great.Walk
import Derived.Test.YteghfinngilfgaaDoorOwn
namespace Go.Proofs.YteghfinngilfgaaDoor.T
open Go Go.RowKit Go.Sort Mem Own
set_option maxRecDepth 100000
set_option maxHeartbeats 1000000
set_option linter.unusedVariables false
set_option linter.unusedSimpArgs false

/-- The two errors that Atoi tells of lie where they were laid. -/
def ErrV (w : World) : Prop := ∃ (t1 t2 : TypeId) (p1 p2 : Value), w.var? Tryd.prog "strconv.ErrSyntax" = some #[.iface t1 p1] ∧ w.var? Tryd.prog "strconv.ErrRange" = some #[.iface t2 p2]
theorem ErrV.keep {w w' : World} (h : ErrV w) (hb : Below w.heap.size w w') : ErrV w' := by
  obtain ⟨t1, t2, p1, p2, h1, h2⟩ := h
  exact ⟨t1, t2, p1, p2, var?_keep hb h1, var?_keep hb h2⟩
/-- strconv.Atoi of any text. -/
theorem atoi_any (s : ByteArray) (w : World) (hs : s.size ≤ 1000000) (he : ErrV w) :
    Calls Tryd.prog 43 #[.string s] w fun e w' => ∃ (n : Int) (b : Bool) (p : Value), e = .returned (.tuple #[.int .i64 n, cond b .nilIface (.iface 88 p)]) ∧ (b = true → -9223372036854775808 ≤ n ∧ n ≤ 9223372036854775807) ∧ Below w.heap.size w w' := by
  obtain ⟨t1, t2, p1, p2, h1, h2⟩ := he
  cases hq : Lib.atoiAll s.data.toList with
  | ok v =>
    refine (Tryd.strconv_Atoi_ok s (by omega) v hq w).mono fun e w' h => ⟨v, true, .nilIface, h.1, fun _ => ?_, ?_⟩
    · exact Lib.atoiAll_bounds hq
    · rcases h.2 with h | ⟨t, h⟩
      · rw [h]; exact Below.refl _ _
      · rw [h]; exact Joins.below_bytesWorld _ _ _ _ (Nat.le_refl _)
  | range =>
    refine (Any.strconv_Atoi_range_var Tryd.laysC172 s (by omega) hq t2 p2 w h2).mono fun e w' h => ?_
    obtain ⟨N, e1, -, -, hb⟩ := h
    exact ⟨_, false, _, e1, fun h => (by cases h), hb⟩
  | _ =>
    refine (Any.strconv_Atoi_syntax_var Tryd.laysC172 s (by omega) hq t1 p1 w h1).mono fun e w' h => ?_
    obtain ⟨N, e1, -, -, hb⟩ := h
    exact ⟨_, false, _, e1, fun h => (by cases h), hb⟩
/-- reply.number of any text. -/
theorem number_any (s : ByteArray) (least most : Int) (w : World) (hs : s.size ≤ 1000000) (hT : Tab w) (he : ErrV w) :
    Calls Tryd.prog 35 #[.string s, .int .i64 least, .int .i64 most] w fun e w' => ((∃ n : Int, e = .returned (.tuple #[.int .i64 n, .int .i64 0]) ∧ least ≤ n ∧ n ≤ most) ∨ e = .returned (.tuple #[.int .i64 0, .int .i64 41])) ∧ Below w.heap.size w w' := by
  have HT := Lib.hid hT
  have HA := Lib.hid (fun (wx : World) (h : ErrV wx) => atoi_any s wx hs h)
  have HI := Lib.hid (fun (n : Int) (wx : World) (h0 : -9223372036854775808 ≤ n) (h1 : n ≤ 9223372036854775807) (hT : Tab wx) => itoa_is n wx h0 h1 hT)
  have HE := Lib.hid he
  clear hT he
  go_enter Tryd.func35, Tryd.ntmps35
  go_upto_region 1 with fail
  go_cut [0, 1, 2, 8, 9] (fun s0 s1 s2 s8 s9 wx => ∃ (n : Int) (b : Bool) (p : Value), s0 = .string s ∧ s1 = .int .i64 least ∧ s2 = .int .i64 most ∧ s8 = .int .i64 n ∧ s9 = cond b .nilIface (.iface 88 p) ∧ RowKit.Hid (b = true → -9223372036854775808 ≤ n ∧ n ≤ 9223372036854775807) ∧ RowKit.Hid (Below w.heap.size w wx))
  case first =>
    go_wp2_with (go_at_call 43; refine Calls.mono (HA.out _ HE.out) ?_; (rintro e w1 ⟨n, b, p, rfl, hn, hb1⟩))
    go_meet
    exact ⟨n, b, p, rfl, rfl, rfl, rfl, rfl, Lib.hid hn, Lib.hid hb1⟩
  case rest =>
    obtain ⟨n, b, p, rfl, rfl, rfl, rfl, rfl, HNB, HB⟩ := hcut
    cases b with
    | false =>
      dsimp only [cond]
      go_wp2
      go_ret2
      exact ⟨.inr rfl, HB.out⟩
    | true =>
      dsimp only [cond]
      obtain ⟨h0, h1⟩ := HNB.out rfl
      have HI2 := Lib.hid (fun (wx : World) (hT : Tab wx) => HI.out n wx h0 h1 hT)
      clear HI HNB
      by_cases hl : n < least
      · go_wp2
        go_ret2
        exact ⟨.inr rfl, HB.out⟩
      have hlb : decide (n < least) = false := by simpa using hl
      by_cases hm : most < n
      · go_wp2
        go_ret2
        exact ⟨.inr rfl, HB.out⟩
      have hmb : decide (most < n) = false := by simpa using hm
      cases hd : ((dec n).toList == s.toList) with
      | false =>
        go_wp2_with (go_at_call 29; refine Calls.mono (HI2.out _ (HT.out.keep HB.out)) ?_; (rintro e w2 ⟨rfl, hb2⟩; have HB2 := Lib.hid (HB.out.trans (hb2.mono HB.out.size)); clear hb2))
        go_ret2
        exact ⟨.inr rfl, HB2.out⟩
      | true =>
        have HLM := Lib.hid (show least ≤ n ∧ n ≤ most from ⟨by omega, by omega⟩)
        go_wp2_with (go_at_call 29; refine Calls.mono (HI2.out _ (HT.out.keep HB.out)) ?_; (rintro e w2 ⟨rfl, hb2⟩; have HB2 := Lib.hid (HB.out.trans (hb2.mono HB.out.size)); clear hb2))
        go_ret2
        exact ⟨.inl ⟨n, rfl, HLM.out.1, HLM.out.2⟩, HB2.out⟩
theorem ix_range : ∀ {a : List UInt8} {c : UInt8}, Lib.indexByte a c = -1 ∨ ∃ (k : Nat) (h : k < a.length), Lib.indexByte a c = (k : Int) ∧ a[k] = c
  | [], c => .inl rfl
  | b :: a, c => by
    unfold Lib.indexByte
    by_cases hb : (b == c) = true
    · rw [if_pos hb]
      exact .inr ⟨0, by simp, rfl, by simpa using hb⟩
    · rw [if_neg hb]
      rcases ix_range (a := a) (c := c) with h | ⟨k, hk, h, hc⟩
      · rw [h]; exact .inl rfl
      · rw [h]
        right
        refine ⟨k + 1, by simpa using hk, ?_, by simpa using hc⟩
        rw [if_neg (by simp)]
        simp
/-- reply.line of any text that begins with a sign. -/
theorem line_any (c : UInt8) (rest : List UInt8) (s : ByteArray) (w : World) (hs : s.toList = c :: rest) (hc : ¬ c = 13) (hsz : s.size ≤ 1000000000000000000) :
    Calls Tryd.prog 34 #[.string s] w fun e w' => (∃ (l : ByteArray) (a : Nat), e = .returned (.tuple #[.string l, .int .i64 (a : Int), .int .i64 0]) ∧ a ≤ s.size ∧ 1 ≤ l.size ∧ l.size ≤ 600) ∧ Below w.heap.size w w' ∨ (∃ err : Int, e = .returned (.tuple #[.string ⟨#[]⟩, .int .i64 0, .int .i64 err]) ∧ (err = 40 ∨ err = 41)) ∧ Below w.heap.size w w' := by
  have hs1 : 0 < s.size := by rw [← toList_len, hs]; simp
  obtain ⟨m, hm⟩ : ∃ m : Nat, m = min s.size 512 := ⟨_, rfl⟩
  have hmin : min (s.size : Int) 512 = (m : Int) := by omega
  have hms : m ≤ s.size := by omega
  have hm5 : m ≤ 512 := by omega
  rcases ix_range (a := (s.extract 0 m).data.toList) (c := 10) with hix | ⟨k, hk, hix, hkc⟩
  · have HI := Lib.hid (fun (wx : World) => (Tryd.strings_IndexByte (s.extract 0 m) 10 wx).mono (R' := fun e w' => e = .returned (.int .i64 (-1)) ∧ wx = w') (fun e w' h => ⟨by rw [h.1]; show Ending.returned (.int .i64 (Lib.indexByte (s.extract 0 m).data.toList 10)) = _; rw [hix], h.2.symm⟩))
    clear hix hs hm
    by_cases h5 : 512 ≤ s.size
    · have h5b : decide ((512 : Int) ≤ (s.size : Int)) = true := by simp; omega
      go_enter Tryd.func34, Tryd.ntmps34
      go_wp2_with (go_at_call 33; refine Calls.mono (HI.out _) ?_; rintro e w1 ⟨rfl, rfl⟩)
      go_ret3
      exact .inr ⟨⟨41, rfl, .inr rfl⟩, Below.refl _ _⟩
    · have h5b : decide ((512 : Int) ≤ (s.size : Int)) = false := by simp; omega
      go_enter Tryd.func34, Tryd.ntmps34
      go_wp2_with (go_at_call 33; refine Calls.mono (HI.out _) ?_; rintro e w1 ⟨rfl, rfl⟩)
      go_ret3
      exact .inr ⟨⟨40, rfl, .inl rfl⟩, Below.refl _ _⟩
  · have hkm : k < m := by
      have h1 : k < (s.toList.take m).length := by rw [← ext_list, ByteArray.toList_eq]; exact hk
      simp at h1; omega
    have HI := Lib.hid (fun (wx : World) => (Tryd.strings_IndexByte (s.extract 0 m) 10 wx).mono (R' := fun e w' => e = .returned (.int .i64 (k : Int)) ∧ wx = w') (fun e w' h => ⟨by rw [h.1]; show Ending.returned (.int .i64 (Lib.indexByte (s.extract 0 m).data.toList 10)) = _; rw [hix], h.2.symm⟩))
    obtain ⟨P, hP⟩ : ∃ P, s.extract 0 (k + 1) = P := ⟨_, rfl⟩
    have hPl : P.toList = s.toList.take (k + 1) := by rw [← hP, ext_list]
    have hPz : P.size = k + 1 := by rw [← toList_len, hPl]; simp [toList_len]; omega
    obtain ⟨l, hl⟩ : ∃ l : ByteArray, l = ⟨(Lib.trimSuffix P.data.toList [13, 10]).toArray⟩ := ⟨_, rfl⟩
    obtain ⟨ok, hok⟩ : ∃ ok, ok = Lib.hasSuffix P.data.toList [13, 10] := ⟨_, rfl⟩
    have HC := Lib.hid (fun (wx : World) => (Tryd.strings_CutSuffix P ⟨#[13, 10]⟩ wx (by omega)).mono (R' := fun e w' => e = .returned (.tuple #[.string l, .bool ok]) ∧ wx = w') (fun e w' h => ⟨by rw [h.1, hl, hok], h.2.symm⟩))
    have hlz : l.size ≤ k + 1 := by
      rw [hl]
      show (Lib.trimSuffix P.data.toList [13, 10]).toArray.size ≤ k + 1
      unfold Lib.trimSuffix
      have e1 : P.data.toList.length = k + 1 := by rw [← ByteArray.toList_eq, toList_len, hPz]
      split <;> simp <;> omega
    have HLZ := Lib.hid (show ok = true → 1 ≤ l.size from fun h => by
      rw [hok] at h
      have h2 : [13, 10] <:+ P.data.toList := List.isSuffixOf_iff_suffix.1 h
      obtain ⟨a, ha⟩ := h2
      have ha2 : P.toList = a ++ [13, 10] := by rw [ByteArray.toList_eq, ha]
      have hl2 : l.size = a.length := by
        rw [hl]
        show (Lib.trimSuffix P.data.toList [13, 10]).toArray.size = a.length
        unfold Lib.trimSuffix
        rw [if_pos h, ← ha]
        simp
      rw [hl2]
      cases a with
      | nil =>
        have h3 := hPl.symm.trans ha2
        rw [hs, List.take_succ_cons] at h3
        simp at h3
        exact absurd h3.1 hc
      | cons x a => simp)
    have HN := Lib.hid (fun (wx : World) => cany_is l wx (by omega))
    generalize hasCR l = hcr at HN
    have hkd : decide ((k : Int) < 0) = false := by simp
    clear hix hs hm hl hok hPl hkc hk
    go_enter Tryd.func34, Tryd.ntmps34
    cases ok with
    | false =>
      go_wp2_with (first
        | (go_at_call 33; refine Calls.mono (HI.out _) ?_; rintro e w1 ⟨rfl, rfl⟩)
        | (go_at_call 42; (try rw [hP]); refine Calls.mono (HC.out _) ?_; rintro e w1 ⟨rfl, rfl⟩))
      go_ret3
      exact .inr ⟨⟨41, rfl, .inr rfl⟩, Below.refl _ _⟩
    | true =>
      cases hcr with
      | true =>
        go_wp2_with (first
          | (go_at_call 33; refine Calls.mono (HI.out _) ?_; rintro e w1 ⟨rfl, rfl⟩)
          | (go_at_call 42; (try rw [hP]); refine Calls.mono (HC.out _) ?_; rintro e w1 ⟨rfl, rfl⟩)
          | (go_at_call 28; refine Calls.mono (HN.out _) ?_; (rintro e w1 ⟨rfl, hb1⟩; have HB1 := Lib.hid hb1; clear hb1)))
        go_ret3
        exact .inr ⟨⟨41, rfl, .inr rfl⟩, HB1.out⟩
      | false =>
        go_wp2_with (first
          | (go_at_call 33; refine Calls.mono (HI.out _) ?_; rintro e w1 ⟨rfl, rfl⟩)
          | (go_at_call 42; (try rw [hP]); refine Calls.mono (HC.out _) ?_; rintro e w1 ⟨rfl, rfl⟩)
          | (go_at_call 28; refine Calls.mono (HN.out _) ?_; (rintro e w1 ⟨rfl, hb1⟩; have HB1 := Lib.hid hb1; clear hb1)))
        go_ret3
        exact .inl ⟨⟨l, k + 1, by simp, by omega, HLZ.out (by first | rfl | trivial), by omega⟩, HB1.out⟩
end Go.Proofs.YteghfinngilfgaaDoor.T
