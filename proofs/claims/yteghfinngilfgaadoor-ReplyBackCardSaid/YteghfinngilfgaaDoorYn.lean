import Derived.Deep.DeepCutAuto
import Derived.Laws.OwnMore
import Derived.OwnWalk
import Derived.Lib.AppendStr
import Derived.Lib.SliceRun
import Derived.Lib.SmallJoins
import Derived.IntWalk
import Derived.Lib.ItoaLen
import Derived.WalkMore
import Derived.Lib.OthersKept
import Derived.Laws.Runes
import Derived.Deep.LoopGhost
import Derived.Deep.RegionLaw
import Derived.Deep.AppendLies
import Derived.Test.YteghfinngilfgaaDoorProg
import Derived.Test.YteghfinngilfgaaDoorMem
import Derived.Test.YteghfinngilfgaaDoorYm
import Derived.Test.YteghfinngilfgaaDoorZr
import Derived.WalkKit
import Derived.Outline
import Derived.WalkLawsBesides
import Derived.Deep.QuietTactic
import Derived.BigQuiet
import Derived.Lib.Hide
import Derived.Handy
import Derived.Deep.RegionHeld3
import Derived.Deep.DrawnRows
import Derived.KernelRfl
import Derived.Great.Walk
import Derived.Test.YteghfinngilfgaaDoorOwn
namespace Go.Proofs.YteghfinngilfgaaDoor.T
open Go Go.RowKit Go.Sort Mem Own
set_option maxRecDepth 100000
set_option maxHeartbeats 1000000
set_option linter.unusedVariables false
set_option linter.unusedSimpArgs false

theorem conv_own {w : World} {B n : Nat} {v : Value} {l : List UInt8} (h : w.ownsRow B 5 1 v n (bcs l)) : (convert 42 9 v).run Tryd.prog w = .ok (.string ⟨l.toArray⟩) w := by
  have hn : n = l.length := by have := h.1; rw [bcs_len] at this; omega
  subst hn
  rcases h.2 with ⟨rfl, h0⟩ | ⟨g, cap, cur, rfl, _, hgg, _⟩
  · have : l = [] := List.eq_nil_of_length_eq_zero h0
    subst this
    simp [convert, run_underlying Tryd.underlying42, run_underlying Tryd.underlying9, run_underlying Tryd.underlying5, Conv.bytesToString]
    rfl
  · refine run_convert_bytes_back (P := Tryd.prog) w 42 9 5 ⟨g, 0, none⟩ cap l Tryd.underlying42 Tryd.underlying5 Tryd.underlying9 fun j hj => ?_
    rw [addr_add, Nat.zero_add, h.cellAt j (by omega)]
    simp [bcs, hj]
theorem write_all (n : Nat) : WP n := by
  induction n with
  | zero => intro x d A c v m bs w0 w h; have := sz_pos x; omega
  | succ n ih =>
    intro x d A c v m bs w0 w hs hr hwf hd hb hO hm hT
    cases hbr : bareB x with
    | false => exact write_bare x d A c v bs w0 w hbr hb
    | true =>
      have hm2 : m + x.t.size + 64 ≤ 140737488355328 := by rw [wt_mk] at hm; split at hm <;> omega
      have ht := hwf.t
      by_cases k1 : x.k = 1
      · exact write_text x d A c v m bs w0 w k1 hbr (by omega) hb hO hm2
      by_cases k2 : x.k = 2
      · exact write_fault x d A c v m bs w0 w k2 hbr (by omega) hb hO hm2
      by_cases k3 : x.k = 3
      · exact write_num x d A c v m bs w0 w k3 hbr hwf.z.1 hwf.z.2 hT hb hO hm2
      by_cases k4 : x.k = 4
      · exact write_bulk x d A c v m bs w0 w k4 hbr hT hb hO hm2
      by_cases k5 : x.k = 5
      · exact write_nil x d A c v m bs w0 w k5 hbr hb hO hm2
      by_cases k6 : x.k = 6
      · exact write_many n ih x d A c v m bs w0 w hs hr hwf hd k6 hbr hT hb hO hm
      exact write_other x d A c v m bs w0 w hbr k1 k2 k3 k4 k5 k6 hb hO
def encS (x : T) : ByteArray := ⟨((enc 0 x).getD []).toArray⟩
def encO (x : T) : Bool := (enc 0 x).isSome
/-- reply.Encode -/
theorem encode_is (x : T) (A : Option Addr) (c : Nat) (w : World) (hr : RdT w A x) (hwf : Wf x) (hm : wt 0 x ≤ 100000000000000) (hT : Tab w) :
    Calls Tryd.prog 12 #[tV x.k x.z x.t A x.l.length c] w fun e w' => e = .returned (.tuple #[.string (encS x), .bool (encO x)]) ∧ Below w.heap.size w w' := by
  have HN := Lib.hid (new1 w #[.int .i64 x.k, .int .i64 x.z, .string x.t, .slice A x.l.length c] 24)
  have HW := Lib.hid (show ∀ wx, Below w.heap.size w wx → Calls Tryd.prog 23 #[.slice none 0 0, tV x.k x.z x.t A x.l.length c, .int .i64 0] wx (WOut (enc 0 x) [] w.heap.size w) from fun wx hb => write_all x.sz x 0 A c (.slice none 0 0) 0 [] w wx (Nat.le_refl _) hr hwf (by omega) hb (World.ownsRow_nil _ _ _ _) (by omega) hT)
  unfold encS encO
  generalize enc 0 x = r at HW ⊢
  generalize x.k = k at HN HW ⊢
  generalize x.z = z at HN HW ⊢
  generalize x.t = t at HN HW ⊢
  generalize x.l.length = n at HN HW ⊢
  clear hr hwf hm hT
  obtain ⟨x0, x1, x2, x3⟩ := cells4 HN.out.1
  cases r with
  | none =>
    have kn : ∀ wx : World, (convert 42 9 (.slice none 0 0)).run Tryd.prog wx = .ok (.string ⟨#[]⟩) wx := fun wx => conv_own (B := 0) (l := []) (World.ownsRow_nil wx 0 5 1)
    go_enter Tryd.func12, Tryd.ntmps12
    go_wp2_with ((go_at_call 23; refine Calls.mono ((HW.out _ HN.out.2).mono (fun e w' h => wout_none h)) ?_; (rintro e w1 ⟨rfl, hb1⟩; have HB1 := Lib.hid hb1; clear hb1)))
    go_ret2
    exact ⟨rfl, HB1.out⟩
  | some a =>
    go_enter Tryd.func12, Tryd.ntmps12
    go_wp2_with ((go_at_call 23; refine Calls.mono ((HW.out _ HN.out.2).mono (fun e w' h => wout_some h)) ?_; (rintro e w1 ⟨v', m', rfl, ho1, hb1⟩; have HB1 := Lib.hid hb1; have kn : (convert 42 9 v').run Tryd.prog w1 = .ok (.string ⟨a.toArray⟩) w1 := (by have := conv_own ho1; simpa using this); clear hb1 ho1)))
    go_ret2
    exact ⟨rfl, HB1.out⟩
end Go.Proofs.YteghfinngilfgaaDoor.T
