import Derived.Deep.DeepCutAuto
import Derived.Laws.OwnMore
import Derived.OwnWalk
import Derived.Lib.AppendStr
import Derived.Lib.SliceRun
import Derived.Lib.SmallJoins
import Derived.IntWalk
import Derived.Lib.ItoaLen
import Derived.WalkMore
import Derived.Lib.AtoiAllCases
import Derived.Lib.OthersKept
import Derived.Laws.Runes
import Derived.Deep.LoopGhost
import Derived.Deep.RegionLaw
import Derived.Deep.AppendLies
import Derived.Test.YteghfinngilfgaaDoorProg
import Derived.Test.YteghfinngilfgaaDoorMem
import Derived.Test.YteghfinngilfgaaDoorYv
import Derived.WalkKit
import Derived.Outline
import Derived.WalkLawsBesides
import Derived.Deep.QuietTactic
import Derived.BigQuiet
import Derived.Lib.Hide
import Derived.Handy
import Derived.Deep.RegionHeld3
import Derived.Deep.DrawnRows
import Derived.KernelRfl
import Derived.Great.Walk
import Derived.Test.YteghfinngilfgaaDoorOwn
namespace Go.Proofs.YteghfinngilfgaaDoor.T
open Go Go.RowKit Go.Sort Mem Own
set_option maxRecDepth 100000
set_option maxHeartbeats 1000000
set_option linter.unusedVariables false
set_option linter.unusedSimpArgs false

theorem rout_leaf {k z : Int} {t : ByteArray} {n : Nat} {m : Int} {w w' : World} {e : Ending} (h : e = .returned (.tuple #[tV k z t none 0 0, .int .i64 m, .int .i64 0]) ∧ Below w.heap.size w w') (hm : m = (n : Int)) : ROut (.mk k z t []) n w.heap.size w e w' :=
  ⟨none, 0, by rw [h.1, hm]; rfl, fun _ _ => .inl rfl, h.2⟩
/-- reply.read of what stands for a reply, from reply.list's answer. -/
theorem read_step (x : T) (d : Nat) (bs more : List UInt8) (s : ByteArray) (w : World) (he : enc d x = some bs) (hwf : Wf x) (hb : bs.length ≤ 100000000000000) (hs : s.toList = bs ++ more) (hsz : s.size ≤ 9223372036854775807) (hT : Tab w)
    (hls : ∀ (r : List UInt8) (u : ByteArray) (wx : World), x.l.length ≤ 1024 → d < 4 → encs (d + 1) x.l = some r → u.toList = r ++ more → u.size ≤ 9223372036854775807 → Below w.heap.size w wx → Calls Tryd.prog 37 #[.string u, .int .i64 (x.l.length : Int), .int .i64 (d : Int)] wx (LOut x.l r.length wx.heap.size wx)) :
    Calls Tryd.prog 25 #[.string s, .int .i64 (d : Int)] w (ROut x bs.length w.heap.size w) := by
  cases hbr : bareB x with
  | false => rw [enc_bare hbr] at he; cases he
  | true =>
    have hbr' := hbr
    obtain ⟨k, z, t, l⟩ := x
    unfold bareB at hbr'
    simp only [T.k, T.z, T.t, T.l, Bool.and_eq_true, Bool.or_eq_true, decide_eq_true_eq] at hbr'
    obtain ⟨⟨b1, b2⟩, b3⟩ := hbr'
    have ht0 : ¬ (k = 1 ∨ k = 2 ∨ k = 4) → t = ⟨#[]⟩ := by
      intro h
      rcases b1 with ((b1 | b1) | b1) | b1
      · exact absurd (.inl (of_decide_eq_true b1)) h
      · exact absurd (.inr (.inl (of_decide_eq_true b1))) h
      · exact absurd (.inr (.inr (of_decide_eq_true b1))) h
      · apply ba_list; rw [List.isEmpty_iff.1 b1, ByteArray.toList_eq]
    have hz0 : ¬ k = 3 → z = 0 := fun h => of_decide_eq_true (b2.resolve_left fun e => h (of_decide_eq_true e))
    have hl0 : ¬ k = 6 → l = [] := fun h => List.eq_nil_of_length_eq_zero (of_decide_eq_true (b3.resolve_left fun e => h (of_decide_eq_true e)))
    have hwz := hwf.z
    by_cases k1 : k = 1
    · subst k1
      rw [enc_1 hbr rfl] at he
      split at he
      · rename_i hp
        cases he
        obtain rfl := hz0 (by decide)
        obtain rfl := hl0 (by decide)
        exact (read_1 t s d more w hp hs hsz).mono fun e w' h => rout_leaf h (by simp [crlf, toList_len, T.t]; omega)
      · cases he
    by_cases k2 : k = 2
    · subst k2
      rw [enc_2 hbr rfl] at he
      split at he
      · rename_i hp
        cases he
        obtain rfl := hz0 (by decide)
        obtain rfl := hl0 (by decide)
        exact (read_2 t s d more w hp hs hsz).mono fun e w' h => rout_leaf h (by simp [crlf, toList_len, T.t]; omega)
      · cases he
    by_cases k3 : k = 3
    · subst k3
      rw [enc_3 hbr rfl] at he
      cases he
      obtain rfl := ht0 (by decide)
      obtain rfl := hl0 (by decide)
      exact (read_3 z s d more w hwz.1 hwz.2 hs hsz hT).mono fun e w' h => rout_leaf h (by simp [crlf, T.z]; omega)
    by_cases k4 : k = 4
    · subst k4
      rw [enc_4 hbr rfl] at he
      split at he
      · rename_i hp
        cases he
        obtain rfl := hz0 (by decide)
        obtain rfl := hl0 (by decide)
        exact (read_4 t s d more w hp hs hsz hT).mono fun e w' h => rout_leaf h (by simp [crlf, toList_len, T.t]; omega)
      · cases he
    by_cases k5 : k = 5
    · subst k5
      rw [enc_5 hbr rfl] at he
      cases he
      obtain rfl := ht0 (by decide)
      obtain rfl := hz0 (by decide)
      obtain rfl := hl0 (by decide)
      exact (read_5 s d more w hs hsz hT).mono fun e w' h => rout_leaf h (by simp)
    by_cases k6 : k = 6
    · subst k6
      rw [enc_6 hbr rfl] at he
      split at he
      · rename_i hp
        obtain ⟨r, hr, rfl⟩ := Option.map_eq_some_iff.1 he
        obtain rfl := ht0 (by decide)
        obtain rfl := hz0 (by decide)
        have hrl : r.length ≤ 100000000000000 := by simp at hb; omega
        refine (read_6 l s d r.length (r ++ more) w hp.2 hp.1 hrl (by rw [hs]; simp [T.l]) hsz hT fun u wx h1 h2 h3 => hls r u wx hp.1 hp.2 hr h1 h2 h3).mono fun e w' h => ?_
        have e1 : (42 :: (Lib.itoa ((T.mk 6 0 ⟨#[]⟩ l).l.length : Int) ++ (crlf ++ r))).length = (Lib.itoa (l.length : Int)).length + 1 + 2 + r.length := by simp [crlf, T.l]; omega
        rw [e1]
        exact h
      · cases he
    · rw [enc_no (x := T.mk k z t l) k1 k2 k3 k4 k5 k6] at he
      cases he
end Go.Proofs.YteghfinngilfgaaDoor.T
