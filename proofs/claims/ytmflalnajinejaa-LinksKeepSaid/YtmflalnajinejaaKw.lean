import Derived.Deep.DeepCutAuto
import Derived.Laws.OwnMore
import Derived.OwnWalk
import Derived.Lib.AppendStr
import Derived.Lib.SliceRun
import Derived.Lib.SmallJoins
import Derived.IntWalk
import Derived.WalkMore
import Derived.Lib.OthersKept
import Derived.Deep.LoopGhost
import Derived.Deep.RegionLaw
import Derived.Deep.AppendLies
import Derived.Test.YtmflalnajinejaaProg
import Derived.Test.YtmflalnajinejaaMem
import Derived.Test.YtmflalnajinejaaBlk
import Derived.Test.YtmflalnajinejaaAp
import Derived.Test.YtmflalnajinejaaKa
import Derived.Test.YtmflalnajinejaaKc
import Derived.Test.YtmflalnajinejaaKd
import Derived.Test.YtmflalnajinejaaKl
import Derived.Test.YtmflalnajinejaaOwn
import Derived.Test.YtmflalnajinejaaKu
import Derived.Test.YtmflalnajinejaaKv
import Derived.Test.YtmflalnajinejaaLa
import Derived.Test.YtmflalnajinejaaShelf
import Derived.Shelf.SlSortCmp.NoneTotal
import Derived.Lib.OwnBridge
import Derived.RangeFuncGives
import Derived.RangeFuncSeq
import Derived.Sort.MapsRangeIn
import Derived.Sort.KeysCollected
import Derived.OwnWalkIn
import Derived.TacticsInMore
import Derived.RegionIn
import Derived.LoopNIn
import Derived.LoopIn
import Derived.Maps.AppendAt
import Derived.Shelf.Abstract
import Derived.WalkKit
import Derived.Outline
import Derived.WalkLawsBesides
import Derived.Deep.QuietTactic
import Derived.BigQuiet
import Derived.Lib.Hide
import Derived.Handy
import Derived.Deep.RegionHeld3
import Derived.Deep.DrawnRows
import Derived.KernelRfl
import Derived.Great.Walk
import Derived.Test.YtmflalnajinejaaOwn
namespace Go.Proofs.Ytmflalnajinejaa.T
open Go Go.RowKit Go.Sort Mem Own
set_option maxRecDepth 100000
set_option maxHeartbeats 1000000
set_option linter.unusedVariables false
set_option linter.unusedSimpArgs false

open Go.WideMaps Go.Maps
theorem cmpL (blk off size : Nat) (w : World) : CmpLays Try.prog 30 #[] enC 2 cfE blk off size w := fun _ _ _ _ x y => pcmp_is x y _
/-- slices.SortFunc of a row of links of one's own. -/
theorem sfunc_is (B n : Nat) (v : Value) (ss : List En) (w : World) (h : w.ownsRow B 40 2 v n (ss.flatMap enC)) (hn : n ≤ 1000000) :
    Calls Try.prog 36 #[v, .func (.func 30) #[] #[]] w fun e w' => e = .returned (.tuple #[]) ∧ Below B w w' ∧ ∃ A c ss', v = .slice A n c ∧ ss'.length = n ∧ ss'.Perm ss ∧ (∀ i j (hi : i < ss'.length) (hj : j < ss'.length), i < j → bef ss'[j] ss'[i] = false) ∧ RdE w' A ss' := by
  have hl : ss.length = n := by have := h.1; rw [enC_len] at this; omega
  have z40 : ∀ w, (Go.sizeOf 40).run Try.prog w = .ok 2 w := Try.sizeOf40
  have a40 : ∀ w, (isAgg 40).run Try.prog w = .ok true w := Try.isAgg40
  have eg : ∀ args w, (callFunc 30 args).run Try.prog w = .ok (.enter 30 args) w := enters_of Try.func30 (by kernel_rfl) rfl
  have h1 : ∀ (x : En), ∀ v ∈ enC x, v.oneCell' = true := fun x v hv => by simp [enC] at hv; rcases hv with rfl | rfl <;> rfl
  rcases h.2 with ⟨rfl, h0⟩ | ⟨g, cap, cur, rfl, hB, hb, hnc, hcm, hsz, htk⟩
  · have hss : ss = [] := List.eq_nil_of_length_eq_zero (by omega)
    subst hss
    subst h0
    have hc := AnyF.slices_SortFunc_none Try.laysSlF06_f36 none 0 (.func (.func 30) #[] #[]) w
    change Calls Try.prog 36 _ _ _ at hc
    refine hc.mono ?_
    rintro e w' ⟨rfl, rfl⟩
    exact ⟨rfl, Below.refl _ _, none, 0, [], rfl, rfl, List.Perm.refl _, fun i j hi => by simp at hi, .inl rfl⟩
  · have hH : HoldsK enC 2 w g 0 ss.toArray := holdsE hb (by rw [hl]; exact htk)
    have hg := lt_of_blk hb
    have hc := AnyQ.slices_SortFunc Try.laysSlF06_f36 2 a40 z40 enC (fun _ => rfl) h1 cfE swoE 30 #[] g 0 cap ss.toArray w eg (cmpL g 0 _ w) hH hg (by simp; omega)
    change Calls Try.prog 36 _ _ _ at hc
    have hd : ss.toArray.size = n := by simp [hl]
    rw [hd] at hc
    refine hc.mono ?_
    rintro e w' ⟨rfl, d', q, os, ⟨hp1, _, hp3⟩, hs, rfl⟩
    have hds : d'.size = n := by rw [hp1, hd]
    have hbp : Below B w (putRowK enC 2 (Sort.ahead w q) g 0 d') := Lib.below_putRow (Below.refl _ _) hB
    have hH' : HoldsK enC 2 (sortWorldK enC 2 w g 0 q d' os) g 0 d' := by
      unfold sortWorldK
      exact holdsK_grow enC 2 _ os g 0 d' (by have := hbp.size; omega) (holdsK_putRowK enC 2 _ g 0 ss.toArray d' (holdsK_ahead enC 2 w q g 0 _ hH) (by rw [hds, hd]))
    refine ⟨rfl, ?_, _, cap, d'.toList, rfl, by simp [hds], ?_, ?_, rdE_of hH'⟩
    · unfold sortWorldK
      exact below_grw hbp (by have := hbp.size; omega) os
    · have e1 : d'.extract 0 n = d' := by rw [← hds]; simp
      have e2 : ss.toArray.extract 0 n = ss.toArray := by rw [← hd]; simp
      rw [e1, e2] at hp3
      simpa using hp3
    · intro i j hi hj hij
      have hi' : i < d'.size := by simpa using hi
      have hj' : j < d'.size := by simpa using hj
      have := hs i j (Nat.zero_le _) hij (hds ▸ hj')
      rw [getElem!_pos d' i hi', getElem!_pos d' j hj', lt_cfE] at this
      simpa using this
end Go.Proofs.Ytmflalnajinejaa.T
