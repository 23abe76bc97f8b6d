import Derived.Deep.DeepCutAuto
import Derived.Laws.OwnMore
import Derived.OwnWalk
import Derived.Lib.AppendStr
import Derived.Lib.SliceRun
import Derived.Lib.SmallJoins
import Derived.IntWalk
import Derived.WalkMore
import Derived.Lib.OthersKept
import Derived.Deep.LoopGhost
import Derived.Deep.RegionLaw
import Derived.Deep.AppendLies
import Derived.Test.YtmflalnajinejaaProg
import Derived.Test.YtmflalnajinejaaMem
import Derived.Test.YtmflalnajinejaaBlk
import Derived.Test.YtmflalnajinejaaAp
import Derived.Test.YtmflalnajinejaaKa
import Derived.Test.YtmflalnajinejaaKc
import Derived.Test.YtmflalnajinejaaKd
import Derived.Test.YtmflalnajinejaaKe
import Derived.Test.YtmflalnajinejaaKh
import Derived.Test.YtmflalnajinejaaKj
import Derived.Test.YtmflalnajinejaaKl
import Derived.Test.YtmflalnajinejaaKm
import Derived.Test.YtmflalnajinejaaKn
import Derived.Test.YtmflalnajinejaaKx
import Derived.Test.YtmflalnajinejaaKy
import Derived.Test.YtmflalnajinejaaKz
import Derived.Test.YtmflalnajinejaaLa
import Derived.Test.YtmflalnajinejaaLb
import Derived.Test.YtmflalnajinejaaMa
import Derived.Test.YtmflalnajinejaaMd
import Derived.Test.YtmflalnajinejaaNa
import Derived.Test.YtmflalnajinejaaNd
import Derived.WalkKit
import Derived.Outline
import Derived.WalkLawsBesides
import Derived.Deep.QuietTactic
import Derived.BigQuiet
import Derived.Lib.Hide
import Derived.Handy
import Derived.Deep.RegionHeld3
import Derived.Deep.DrawnRows
import Derived.KernelRfl
import Derived.Great.Walk
import Derived.Test.YtmflalnajinejaaOwn
namespace Go.Proofs.Ytmflalnajinejaa.T
open Go Go.RowKit Go.Sort Mem Own
set_option maxRecDepth 100000
set_option maxHeartbeats 1000000
set_option linter.unusedVariables false
set_option linter.unusedSimpArgs false

open Go.WideMaps Go.Maps
theorem neE (a b : Int) (w : World) : (binOp .neq 40 (.agg #[.int .i64 a, .int .i64 b]) (.agg #[.int .i64 a, .int .i64 b])).run Try.prog w = .ok (.bool false) w := by
  have h := eqE a b a b w
  simp only [binOp, Sem.run_bind] at h ⊢
  cases hr : (Op.equal 40 (.agg #[.int .i64 a, .int .i64 b]) (.agg #[.int .i64 a, .int .i64 b])).run Try.prog w with
  | ok v w1 =>
    rw [hr] at h
    simp [Result.andThen] at h ⊢
    exact h
  | _ => rw [hr] at h; simp [Result.andThen] at h
/-- The links that have some are those of the row. -/
theorem pairs_eq {Q : En → List Lt} {L : List Wy} {l : List En} (hq : QR Q L) (hs : SmL L) (hp : l.Pairwise (fun a b => bef a b = true)) (hw : ∀ x ∈ l, x.wf) (hm : ∀ x : En, x.wf → (x ∈ l ↔ Q x ≠ [])) : l = prs L [] := by
  refine up_one hp (prs_up L [] .nil) fun x => ?_
  rw [prs_mem]
  constructor
  · intro hx
    exact .inr ((hq.mem x).1 ((hm x (hw x hx)).1 hx))
  · rintro (h | ⟨p, h1, h2⟩)
    · cases h
    · have := (hs p h1).1
      rw [h2] at this
      exact (hm x this).2 ((hq.mem x).2 ⟨p, h1, h2⟩)
set_option maxHeartbeats 8000000 in
/-- law18.stands -/
theorem stands_is (g b n : Nat) (Q : En → List Lt) (L : List Wy) (A : Option Addr) (N c : Nat) (w : World) (h : LK w g b n Q) (hq : QR Q L) (hL : L.length = N) (hN : N ≤ 1000) (hn : n ≤ 1000) (hr : RdW w A L) (hs : SmL L) :
    Calls Try.prog 12 #[.pointer (some ⟨g, 0, none⟩), .slice A N c] w fun e w' => e = .returned (.bool true) ∧ Below w.heap.size w w' := by
  have HLK := Lib.hid h
  have HQ := Lib.hid hq
  have HR := Lib.hid hr
  have HL := Lib.hid hL
  have HS := Lib.hid hs
  have HP := Lib.hid ((pairs_is g b n Q w h (by omega)).mono (R' := fun e w' => ∃ A c, e = .returned (.slice A (prs L []).length c) ∧ RdE w' A (prs L []) ∧ Below w.heap.size w w') fun e w' ⟨A1, c1, l, he, h1, h2, h3, h4, h5⟩ => by
    have e := pairs_eq hq hs h2 h3 h4
    subst e
    exact ⟨A1, c1, he, h1, h5⟩)
  have HPW := Lib.hid (show ∀ x ∈ prs L [], x.wf from fun x hx => by
    rcases (prs_mem L [] x).1 hx with h | ⟨p, h1, h2⟩
    · cases h
    · rw [← h2]; exact (hs p h1).1)
  have HPL := Lib.hid (show (prs L []).length ≤ 1000 by have := prs_len L []; simp at this; omega)
  have HRP := Lib.hid (fun (wx : World) (hb : Below w.heap.size w wx) => rpairs_is L A N c wx hL (by omega) (hr.keeps (keeps_below hb)))
  clear h hq hr hL hs
  generalize prs L [] = l at HP HPW HPL HRP
  obtain ⟨M, hM⟩ : ∃ M, M = l.length := ⟨_, rfl⟩
  have HM := Lib.hid hM.symm
  rw [← hM] at HP HPL HRP
  clear hM
  have hM1 : M ≤ 1000 := HPL.out
  go_enter Try.func12, Try.ntmps12
  go_upto_region 2 with (first
    | (go_at_call 16; refine Calls.mono HP.out ?_; (rintro e w1 ⟨A1, c1, rfl, hr1, hb1⟩; have HR1 := Lib.hid hr1; have HB1 := Lib.hid hb1; clear hr1 hb1))
    | (go_at_call 21; refine Calls.mono (HRP.out _ HB1.out) ?_; (rintro e w2 ⟨v2, rfl, ho2, hb2⟩; have HO2 := Lib.hid ho2; have HB2 := Lib.hid hb2; clear ho2 hb2)))
  obtain ⟨A2, c2, hv⟩ : ∃ A c, v2 = .slice A M c := by
    rcases HO2.out.2 with ⟨hv, h0⟩ | ⟨g, cap, cur, hv, _⟩
    · exact ⟨none, 0, by rw [hv, h0]⟩
    · exact ⟨_, _, hv⟩
  subst hv
  have HR2 := Lib.hid (own_rde (l := l) (n := M) (by rw [HM.out]; exact HO2.out)).1
  have HR3 := Lib.hid (HR1.out.keeps (keeps_below HB2.out))
  have HBW := Lib.hid (HB1.out.trans (HB2.out.mono HB1.out.size))
  clear HO2 HR1 HP HRP HB1 HB2
  go_wp2_with fail
  go_loopw [19] (fun s19 wr => ∃ j : Nat, j ≤ M ∧ s19 = .int .i64 j ∧ RowKit.Hid (Below w2.heap.size w2 wr)) (fun s19 _ => M - (intOf s19).toNat)
  case atStart => exact ⟨0, Nat.zero_le _, rfl, Lib.hid (Below.refl _ _)⟩
  case round =>
    obtain ⟨j, hj, rfl, HBj⟩ := hrel
    by_cases hlt : j < M
    · have hlt2 := Lib.hid (show j < l.length by rw [HM.out]; exact hlt)
      obtain ⟨ba, oa, rfl, hra⟩ := HR3.out.row (Nat.zero_lt_of_lt hlt2.out)
      obtain ⟨bb, ob, rfl, hrb⟩ := HR2.out.row (Nat.zero_lt_of_lt hlt2.out)
      obtain ⟨a0, a1⟩ := hra j hlt2.out
      obtain ⟨b0, b1⟩ := hrb j hlt2.out
      have a0 := cell_below HBj.out a0
      have a1 := cell_below HBj.out a1
      have b0 := cell_below HBj.out b0
      have b1 := cell_below HBj.out b1
      have HE := Lib.hid (HPW.out _ (List.getElem_mem hlt2.out))
      clear hra hrb
      generalize l[j]'hlt2.out = x at a0 a1 b0 b1 HE
      obtain ⟨ex, ey⟩ := x
      dsimp only at a0 a1 b0 b1
      obtain ⟨q, hq⟩ : ∃ q, cnt (ex, ey) L = q := ⟨_, rfl⟩
      have HQ1 := Lib.hid hq
      clear hq
      have hne : ∀ w : World, (binOp .neq 40 (.agg #[.int .i64 ex, .int .i64 ey]) (.agg #[.int .i64 ex, .int .i64 ey])).run Try.prog w = .ok (.bool false) w := neE ex ey
      have HWA := Lib.hid (fun (wx : World) (hb : Below w2.heap.size w2 wx) => (show Calls Try.prog 17 #[.pointer (some ⟨g, 0, none⟩), .int .i64 ex, .int .i64 ey] wx fun e w' => e = .returned (.int .i64 q) ∧ wx = w' from (waiting_is g b n Q ex ey wx ((HLK.out.below HBW.out).below hb) HE.out).mono fun e w' h => ⟨by rw [h.1, HQ.out.cnt, HQ1.out], h.2⟩))
      have HWB := Lib.hid (fun (wx : World) (hb : Below w2.heap.size w2 wx) => (show Calls Try.prog 22 #[.slice A N c, .int .i64 ex, .int .i64 ey] wx fun e w' => e = .returned (.int .i64 q) ∧ wx = w' from (rwait_is L A N c ex ey wx HL.out (by omega) ((HR.out.keeps (keeps_below HBW.out)).keeps (keeps_below hb))).mono fun e w' h => ⟨by rw [h.1, HQ1.out], h.2⟩))
      have hqq : ((q : Int) == (q : Int)) = true := by simp
      go_upto_region 7 with fail
      go_quiet (first
        | exact Calls.quiet_of_same ((HWA.out _ (Go.below_drewN HBj.out _)).mono fun e w' h => ⟨h.1, h.2.symm⟩)
        | exact Calls.quiet_of_same ((HWB.out _ (Go.below_drewN HBj.out _)).mono fun e w' h => ⟨h.1, h.2.symm⟩))
      all_goals
        go_wp2
        exact ⟨⟨j + 1, by omega, by go_num, Lib.hid (Go.below_drewN HBj.out _)⟩, by simp [intOf]; omega⟩
    · have hin : j = M := by omega
      subst hin
      go_wp2
      go_ret
      exact ⟨rfl, HBW.out.trans (HBj.out.mono HBW.out.size)⟩
end Go.Proofs.Ytmflalnajinejaa.T
