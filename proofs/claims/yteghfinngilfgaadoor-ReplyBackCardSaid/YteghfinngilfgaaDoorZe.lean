import Derived.Deep.DeepCutAuto
import Derived.Laws.OwnMore
import Derived.OwnWalk
import Derived.Lib.AppendStr
import Derived.Lib.SliceRun
import Derived.Lib.SmallJoins
import Derived.IntWalk
import Derived.Lib.ItoaLen
import Derived.WalkMore
import Derived.Lib.AtoiAllCases
import Derived.Lib.OthersKept
import Derived.Laws.Runes
import Derived.Deep.LoopGhost
import Derived.Deep.RegionLaw
import Derived.Deep.AppendLies
import Derived.Test.YteghfinngilfgaaDoorProg
import Derived.Test.YteghfinngilfgaaDoorMem
import Derived.Test.YteghfinngilfgaaDoorZa
import Derived.WalkKit
import Derived.Outline
import Derived.WalkLawsBesides
import Derived.Deep.QuietTactic
import Derived.BigQuiet
import Derived.Lib.Hide
import Derived.Handy
import Derived.Deep.RegionHeld3
import Derived.Deep.DrawnRows
import Derived.KernelRfl
import Derived.Great.Walk
import Derived.Test.YteghfinngilfgaaDoorOwn
namespace Go.Proofs.YteghfinngilfgaaDoor.T
open Go Go.RowKit Go.Sort Mem Own
set_option maxRecDepth 100000
set_option maxHeartbeats 1000000
set_option linter.unusedVariables false
set_option linter.unusedSimpArgs false

theorem enc_wt {x : T} {d : Nat} {r : List UInt8} (hw : Wf x) (h : enc d x = some r) : r.length ≤ wt d x := (enc_wt_aux x.sz).1 x d r (Nat.le_refl _) hw h
theorem wts_mem {d : Nat} {y : T} : ∀ {l : List T}, y ∈ l → wt d y ≤ wts d l
  | z :: l, h => by
    simp only [wts]
    rcases List.mem_cons.1 h with rfl | h
    · omega
    · have := wts_mem (d := d) h; omega
/-- reply.read of the writing of any reply. -/
theorem read_all : ∀ (N : Nat) (x : T) (d : Nat) (bs more : List UInt8) (s : ByteArray) (w : World), x.sz ≤ N → enc d x = some bs → Wf x → wt d x ≤ 100000000000000 → s.toList = bs ++ more → s.size ≤ 9223372036854775807 → Tab w →
    Calls Tryd.prog 25 #[.string s, .int .i64 (d : Int)] w (ROut x bs.length w.heap.size w) := by
  intro N
  induction N with
  | zero => intro x _ _ _ _ _ h; have := sz_pos x; omega
  | succ N ih =>
    intro x d bs more s w hs he hwf hm hst hsz hT
    refine read_step x d bs more s w he hwf (Nat.le_trans (enc_wt hwf he) hm) hst hsz hT fun r u wx hl hd her hu hus hbw => ?_
    have hwx : wt d x = 64 + x.t.size + wts (d + 1) x.l := by rw [wt_mk, if_neg (by omega)]
    have hrl : r.length ≤ wts (d + 1) x.l := encs_wt (fun y hy => hwf.mem hy) her
    refine list_is x.l d r more u wx hd hl her (by omega) hu hus (hT.keep hbw) fun y hy bs' more' u' wx' h1 h2 h3 h4 h5 => ?_
    have hy2 := wts_mem (d := d + 1) hy
    exact ih y (d + 1) bs' more' u' wx' (by have := sz_lt hy; omega) h1 (hwf.mem hy) (by omega) h3 h4 h5
/-- reply.Decode of the writing of a reply, whatever stands behind it. -/
theorem decode_is (x : T) (bs more : List UInt8) (s : ByteArray) (w : World) (he : enc 0 x = some bs) (hwf : Wf x) (hm : wt 0 x ≤ 100000000000000) (hs : s.toList = bs ++ more) (hsz : s.size ≤ 9223372036854775807) (hT : Tab w) :
    Calls Tryd.prog 14 #[.string s] w (ROut x bs.length w.heap.size w) :=
  decode_of x bs.length s w fun wx hb => read_all x.sz x 0 bs more s wx (Nat.le_refl _) he hwf hm hs hsz (hT.keep hb)
end Go.Proofs.YteghfinngilfgaaDoor.T
