import Derived.Deep.DeepCutAuto
import Derived.Laws.OwnMore
import Derived.OwnWalk
import Derived.Lib.AppendStr
import Derived.Lib.SliceRun
import Derived.Lib.SmallJoins
import Derived.IntWalk
import Derived.Lib.ItoaLen
import Derived.WalkMore
import Derived.Lib.AtoiAllCases
import Derived.Lib.OthersKept
import Derived.Laws.Runes
import Derived.Deep.LoopGhost
import Derived.Deep.RegionLaw
import Derived.Deep.AppendLies
import Derived.Test.YteghfinngilfgaaDoorProg
import Derived.Test.YteghfinngilfgaaDoorMem
import Derived.Test.YteghfinngilfgaaDoorZo
import Derived.WalkKit
import Derived.Outline
import Derived.WalkLawsBesides
import Derived.Deep.QuietTactic
import Derived.BigQuiet
import Derived.Lib.Hide
import Derived.Handy
import Derived.Deep.RegionHeld3
import Derived.Deep.DrawnRows
import Derived.KernelRfl
import Derived.Great.Walk
import Derived.Test.YteghfinngilfgaaDoorOwn
namespace Go.Proofs.YteghfinngilfgaaDoor.T
open Go Go.RowKit Go.Sort Mem Own
set_option maxRecDepth 100000
set_option maxHeartbeats 1000000
set_option linter.unusedVariables false
set_option linter.unusedSimpArgs false

set_option maxHeartbeats 4000000 in
/-- ReplyCuts -/
theorem cuts_law (x : T) (A : Option Addr) (c : Nat) (n : Int) (w : World) (hr : RdT w A x) (ho : Opd x) (hT : Tab w) :
    Calls Tryd.prog 6 #[tV x.k x.z x.t A x.l.length c, .int .i64 n] w (Yes w) := by
  have HS1 := Lib.hid (fun (wx : World) (hb : Below w.heap.size w wx) => small0 x A c wx (hr.below hb))
  have HA := Lib.hid (fun (wx : World) (hb : Below w.heap.size w wx) => alive_is wx (hT.keep hb))
  have HN := Lib.hid (new1 w #[.int .i64 x.k, .int .i64 x.z, .string x.t, .slice A x.l.length c] 24)
  have HE1 := Lib.hid (fun (h : smallB 0 x = true) (wx : World) (hb : Below w.heap.size w wx) => encode_is x A c wx (hr.below hb) (enc_facts h ho).1 (enc_facts h ho).2 (hT.keep hb))
  have HD := Lib.hid (fun (h : smallB 0 x = true) (h2 : encO x = true) (k : Nat) (P : ByteArray) (hk : k < (encS x).size) (hP : P.toList = (encS x).toList.take k) (wx : World) (hb : Below w.heap.size w wx) => (show Calls Tryd.prog 14 #[.string P] wx (RShort wx) by
    rcases enc_parts x with ⟨h1, -⟩ | ⟨-, h3⟩
    · rw [h1] at h2; cases h2
    · refine decode_short P wx fun wy hy => read_cut x.sz x 0 _ (P.toList) ((encS x).toList.drop k) P wy (Nat.le_refl _) h3 (enc_facts h ho).1 (enc_facts h ho).2 (by rw [hP, List.take_append_drop]) (fun e => ?_) rfl (hT.keep (hb.trans (hy.mono hb.size)))
      have := congrArg List.length e
      simp [toList_len] at this
      omega))
  clear hr ho hT
  generalize encS x = S at HE1 HD
  generalize encO x = ox at HE1 HD
  generalize smallB 0 x = sx at HS1 HE1 HD
  generalize x.k = xk at *
  generalize x.z = xz at *
  generalize x.t = xt at *
  generalize x.l.length = xl at *
  obtain ⟨x0, x1, x2, x3⟩ := cells4 HN.out.1
  cases sx with
  | false =>
    go_enter Tryd.func6, Tryd.ntmps6
    go_wp2_with (first
      | (go_at_call 10; refine Calls.mono (HS1.out _ HN.out.2) ?_; (rintro e w1 ⟨rfl, hb1⟩; have HB1 := Lib.hid (HN.out.2.trans (hb1.mono HN.out.2.size)); clear hb1))
      | (go_at_call 11; refine Calls.mono (HA.out _ HB1.out) ?_; (rintro e w2 ⟨rfl, hb2⟩; have HB2 := Lib.hid (HB1.out.trans (hb2.mono HB1.out.size)); clear hb2)))
    go_ret
    exact ⟨rfl, HB2.out⟩
  | true =>
    by_cases hgo : ox = true ∧ ¬ n < 0 ∧ n < (S.size : Int)
    · obtain ⟨rfl, hn0, hn1⟩ := hgo
      obtain ⟨k, rfl⟩ : ∃ k : Nat, n = (k : Int) := ⟨n.toNat, by omega⟩
      have hk : k < S.size := by omega
      obtain ⟨P, hP⟩ : ∃ P, S.extract 0 k = P := ⟨_, rfl⟩
      have HD1 := Lib.hid (HD.out rfl rfl k P hk (by rw [← hP, ext_list]))
      have hn0b : decide ((k : Int) < 0) = false := by simp
      have hn1b : decide ((S.size : Int) ≤ (k : Int)) = false := by simp; omega
      have hle : k ≤ S.size := by omega
      clear HD hn0 hn1
      go_enter Tryd.func6, Tryd.ntmps6
      go_wp2_with (first
        | (go_at_call 10; refine Calls.mono (HS1.out _ HN.out.2) ?_; (rintro e w1 ⟨rfl, hb1⟩; have HB1 := Lib.hid (HN.out.2.trans (hb1.mono HN.out.2.size)); have HX1 := Lib.hid (keep_blk hb1 HN.out.1); clear hb1 x0 x1 x2 x3; obtain ⟨x0, x1, x2, x3⟩ := cells4 HX1.out))
        | (go_at_call 12; refine Calls.mono (HE1.out (by first | rfl | trivial) _ HB1.out) ?_; (rintro e w2 ⟨rfl, hb2⟩; have HB2 := Lib.hid (HB1.out.trans (hb2.mono HB1.out.size)); clear hb2 x0 x1 x2 x3))
        | (go_at_call 14; (try rw [hP]); refine Calls.mono (HD1.out _ HB2.out) ?_; (rintro e w3 ⟨rfl, hb3⟩; have HB3 := Lib.hid (HB2.out.trans (hb3.mono HB2.out.size)); clear hb3))
        | (go_at_call 11; refine Calls.mono (HA.out _ (HB3.out.alloc HB3.out.size _)) ?_; (rintro e w4 ⟨rfl, hb4⟩; have HB4 := Lib.hid ((HB3.out.alloc HB3.out.size _).trans (hb4.mono (HB3.out.alloc HB3.out.size _).size)); clear hb4)))
      go_ret
      exact ⟨rfl, HB4.out⟩
    · clear HD
      have cases3 : (ox = false) ∨ (ox = true ∧ n < 0) ∨ (ox = true ∧ ¬ n < 0 ∧ (S.size : Int) ≤ n) := by
        cases ox
        · exact .inl rfl
        · by_cases h1 : n < 0
          · exact .inr (.inl ⟨rfl, h1⟩)
          · exact .inr (.inr ⟨rfl, h1, by by_cases h2 : n < (S.size : Int); exact absurd ⟨rfl, h1, h2⟩ hgo; omega⟩)
      clear hgo
      rcases cases3 with rfl | ⟨rfl, h1⟩ | ⟨rfl, h1, h2⟩
      all_goals
        (try (have h1b : decide (n < 0) = false := by simpa using h1))
        go_enter Tryd.func6, Tryd.ntmps6
        go_wp2_with (first
          | (go_at_call 10; refine Calls.mono (HS1.out _ HN.out.2) ?_; (rintro e w1 ⟨rfl, hb1⟩; have HB1 := Lib.hid (HN.out.2.trans (hb1.mono HN.out.2.size)); have HX1 := Lib.hid (keep_blk hb1 HN.out.1); clear hb1 x0 x1 x2 x3; obtain ⟨x0, x1, x2, x3⟩ := cells4 HX1.out))
          | (go_at_call 12; refine Calls.mono (HE1.out (by first | rfl | trivial) _ HB1.out) ?_; (rintro e w2 ⟨rfl, hb2⟩; have HB2 := Lib.hid (HB1.out.trans (hb2.mono HB1.out.size)); clear hb2 x0 x1 x2 x3))
          | (go_at_call 11; refine Calls.mono (HA.out _ HB2.out) ?_; (rintro e w4 ⟨rfl, hb4⟩; have HB4 := Lib.hid (HB2.out.trans (hb4.mono HB2.out.size)); clear hb4)))
        go_ret
        exact ⟨rfl, HB4.out⟩
end Go.Proofs.YteghfinngilfgaaDoor.T
