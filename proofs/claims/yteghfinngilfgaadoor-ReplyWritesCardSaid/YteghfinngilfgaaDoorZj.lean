import Derived.Deep.DeepCutAuto
import Derived.Laws.OwnMore
import Derived.OwnWalk
import Derived.Lib.AppendStr
import Derived.Lib.SliceRun
import Derived.Lib.SmallJoins
import Derived.IntWalk
import Derived.Lib.ItoaLen
import Derived.WalkMore
import Derived.Lib.AtoiAllCases
import Derived.Lib.OthersKept
import Derived.Laws.Runes
import Derived.Deep.LoopGhost
import Derived.Deep.RegionLaw
import Derived.Deep.AppendLies
import Derived.Test.YteghfinngilfgaaDoorProg
import Derived.Test.YteghfinngilfgaaDoorMem
import Derived.Test.YteghfinngilfgaaDoorZd
import Derived.WalkKit
import Derived.Outline
import Derived.WalkLawsBesides
import Derived.Deep.QuietTactic
import Derived.BigQuiet
import Derived.Lib.Hide
import Derived.Handy
import Derived.Deep.RegionHeld3
import Derived.Deep.DrawnRows
import Derived.KernelRfl
import Derived.Great.Walk
import Derived.Test.YteghfinngilfgaaDoorOwn
namespace Go.Proofs.YteghfinngilfgaaDoor.T
open Go Go.RowKit Go.Sort Mem Own
set_option maxRecDepth 100000
set_option maxHeartbeats 1000000
set_option linter.unusedVariables false
set_option linter.unusedSimpArgs false

set_option maxHeartbeats 1000000 in
theorem renc_4 (x : T) (d : Nat) (A : Option Addr) (c : Nat) (w : World) (hk : x.k = 4) (hbr : bareB x = true) (ht : x.t.size ≤ 1000000) (hz0 : -9223372036854775808 ≤ x.z) (hz1 : x.z ≤ 9223372036854775807) :
    Calls Tryd.prog 24 #[tV x.k x.z x.t A x.l.length c, .int .i64 d] w fun e w' => REout (enc d x) e ∧ Below w.heap.size w w' := by
  have HP := Lib.hid (fun wx => rbare_is x A c wx)
  rw [hbr] at HP
  have HE := Lib.hid (enc_4 (d := d) hbr hk)
  have HN := Lib.hid (new1 w #[.int .i64 x.k, .int .i64 x.z, .string x.t, .slice A x.l.length c] 24)
  generalize enc d x = r at HE ⊢
  generalize x.k = k at hk HN HP ⊢
  subst hk
  generalize x.z = z at HN HP hz0 hz1 ⊢
  generalize x.t = t at HN HP HE ht ⊢
  generalize x.l.length = L at HN HP ⊢
  clear hbr
  obtain ⟨x0, x1, x2, x3⟩ := cells4 HN.out.1
  have hds := dec_size (t.size : Int) (by omega) (by omega)
  have HD := Lib.hid (fun wx => digits_is (t.size : Int) wx (by omega) (by omega))
  have hdl := dec_list (t.size : Int)
  generalize dec (t.size : Int) = q at hds HD hdl
  have hc1 : ¬ 9223372036854775807 < 1 + q.size := by omega
  have hc2 : ¬ 9223372036854775807 < 1 + q.size + 2 := by omega
  have hc3 : ¬ 9223372036854775807 < 1 + q.size + 2 + t.size := by omega
  have hc4 : ¬ 9223372036854775807 < 1 + q.size + 2 + t.size + 2 := by omega
  have HDL := Lib.hid hdl
  have HL := Lib.hid (show r = if decide ((t.size : Int) ≤ 65536) = true then some (36 :: (Lib.itoa t.size ++ (crlf ++ (t.toList ++ crlf)))) else none by
    rw [HE.out]
    by_cases h : t.size ≤ 65536
    · rw [if_pos h, if_pos (by simp; omega)]
    · rw [if_neg h, if_neg (by simp; omega)])
  clear hdl
  go_enter Tryd.func24, Tryd.ntmps24
  go_wp2_with (go_at_call 30; refine Calls.mono (HP.out _) ?_; (rintro e w1 ⟨rfl, hb1⟩; have HX1 := Lib.hid (keep_blk hb1 HN.out.1); have HB1 := Lib.hid (HN.out.2.trans (hb1.mono HN.out.2.size)); clear x0 x1 x2 x3 hb1; obtain ⟨x0, x1, x2, x3⟩ := cells4 HX1.out))
  go_region_held3 (fun w' => w'.cell? ⟨w.heap.size, 2, none⟩ = some (.string t))
    ((first | assumption | (simp [*, go_sem]; done)))
    (first | (go_at_call 32; refine Calls.mono (HD.out _) ?_; (rintro e w2 ⟨rfl, hb2⟩; have HX2 := Lib.hid (keep_blk hb2 HX1.out); have HB2 := Lib.hid ((Below.drew HB1.out).trans (hb2.mono HB1.out.size)); clear hb2; obtain ⟨y0, y1, y2, y3⟩ := cells4 HX2.out)))
  all_goals
    go_wp2_with fail
    go_ret2
    exact ⟨reout_if HL.out (by rw [toList_app, toList_app, toList_app, toList_app, dollar_list, crlf_list, HDL.out]; simp), HB2.out⟩
end Go.Proofs.YteghfinngilfgaaDoor.T
