import Derived.Deep.DeepCutAuto
import Derived.Laws.OwnMore
import Derived.OwnWalk
import Derived.Lib.AppendStr
import Derived.Lib.SliceRun
import Derived.Lib.SmallJoins
import Derived.IntWalk
import Derived.WalkMore
import Derived.Lib.OthersKept
import Derived.Deep.LoopGhost
import Derived.Deep.RegionLaw
import Derived.Deep.AppendLies
import Derived.Test.YtmflalnajinejaaProg
import Derived.Test.YtmflalnajinejaaMem
import Derived.Test.YtmflalnajinejaaBlk
import Derived.Test.YtmflalnajinejaaAp
import Derived.Test.YtmflalnajinejaaKa
import Derived.Test.YtmflalnajinejaaKc
import Derived.Test.YtmflalnajinejaaKd
import Derived.Test.YtmflalnajinejaaKe
import Derived.Test.YtmflalnajinejaaKh
import Derived.Test.YtmflalnajinejaaKj
import Derived.Test.YtmflalnajinejaaKl
import Derived.Test.YtmflalnajinejaaKm
import Derived.Test.YtmflalnajinejaaKn
import Derived.Test.YtmflalnajinejaaKo
import Derived.Test.YtmflalnajinejaaKp
import Derived.Test.YtmflalnajinejaaKr
import Derived.Test.YtmflalnajinejaaKs
import Derived.Test.YtmflalnajinejaaKx
import Derived.Test.YtmflalnajinejaaKy
import Derived.Test.YtmflalnajinejaaLa
import Derived.Test.YtmflalnajinejaaLb
import Derived.Test.YtmflalnajinejaaMa
import Derived.Test.YtmflalnajinejaaMb
import Derived.Test.YtmflalnajinejaaMc
import Derived.Test.YtmflalnajinejaaMd
import Derived.Test.YtmflalnajinejaaNa
import Derived.Test.YtmflalnajinejaaNb
import Derived.Test.YtmflalnajinejaaNc
import Derived.Test.YtmflalnajinejaaNd
import Derived.WalkKit
import Derived.Outline
import Derived.WalkLawsBesides
import Derived.Deep.QuietTactic
import Derived.BigQuiet
import Derived.Lib.Hide
import Derived.Handy
import Derived.Deep.RegionHeld3
import Derived.Deep.DrawnRows
import Derived.KernelRfl
import Derived.Great.Walk
import Derived.Test.YtmflalnajinejaaOwn
namespace Go.Proofs.Ytmflalnajinejaa.T
open Go Go.RowKit Go.Sort Mem Own
set_option maxRecDepth 100000
set_option maxHeartbeats 1000000
set_option linter.unusedVariables false
set_option linter.unusedSimpArgs false

open Go.WideMaps Go.Maps
/-- Next, as the document's row says. -/
theorem next_row (g b n : Nat) (Q : En → List Lt) (L : List Wy) (x y : Int) (w : World) (h : LK w g b n Q) (hq : QR Q L) (hx : En.wf (x, y)) (hn : n < maxLen) :
    Calls Try.prog 14 #[.pointer (some ⟨g, 0, none⟩), .int .i64 x, .int .i64 y] w fun e w' => ∃ o Q', e = .returned (.tuple #[ltV (hdL (x, y) L) o, .bool (hdW (x, y) L).isSome]) ∧ LtO w' (hdL (x, y) L) o ∧ LK w' g b (n + 1) Q' ∧ QR Q' (rmW (x, y) L) ∧ w.grownBy w' (some b) := by
  rcases hqq : Q (x, y) with _ | ⟨l1, r1⟩
  · obtain ⟨h1, h2⟩ := hq.none hqq
    refine (next_0 g b n Q x y w h hx hqq).mono fun e w' ⟨he, hb⟩ => ⟨⟨none, 0, none, 0⟩, Q, ?_, ?_, (h.below hb).mono (by omega), by rw [h1]; exact hq, ?_⟩
    · rw [he]; unfold hdL; rw [h2]; rfl
    · unfold hdL; rw [h2]; exact zeroO w'
    · exact ⟨hb.os, hb.tape, hb.output, hb.size, fun k hk _ => hb.block k hk⟩
  · obtain ⟨h1, h2⟩ := hq.some hqq
    refine (next_is g b n Q x y w h hx hn l1 r1 hqq).mono fun e w' ⟨o, he, ho, hl, hg⟩ => ⟨o, _, ?_, ?_, hl, hq.pop _, hg⟩
    · rw [he]; unfold hdL; rw [h1]; rfl
    · unfold hdL; rw [h1]; exact ho
theorem hd_mem {x : En} {l : Lt} : ∀ {L : List Wy}, hdW x L = some l → ∃ p ∈ L, p.2 = l
  | [], h => by cases h
  | q :: r, h => by
    by_cases e : q.1 = x
    · simp [hdW, e] at h; exact ⟨q, by simp, h⟩
    · obtain ⟨p, hp, h2⟩ := hd_mem (L := r) (by simpa [hdW, e] using h)
      exact ⟨p, by simp [hp], h2⟩
theorem hdL_sm {x : En} {L : List Wy} (h : SmL L) : Tiny (hdL x L).rep ∧ (hdL x L).args.length ≤ 100 := by
  unfold hdL
  cases e : hdW x L with
  | none => exact ⟨tiny0, Nat.zero_le _⟩
  | some l => obtain ⟨p, hp, rfl⟩ := hd_mem e; exact (h p hp).2
set_option maxHeartbeats 8000000 in
/-- law18.does: Next -/
theorem does1_is (g b n : Nat) (Q : En → List Lt) (L : List Wy) (A : Option Addr) (N c : Nat) (p : Ox) (o : Wh) (w : World) (h : LK w g b n Q) (hq : QR Q L) (hL : L.length = N) (hN : N ≤ 1000) (hn : n ≤ 1000) (hr : RdW w A L) (hwf : p.way.wf) (hs : SmL L) (hk : p.kind = 1) :
    Calls Try.prog 11 #[.pointer (some ⟨g, 0, none⟩), .slice A N c, oxV p o] w fun e w' => ∃ A' c' Q', e = .returned (.tuple #[.slice A' (rmW p.way L).length c', .bool true]) ∧ RdW w' A' (rmW p.way L) ∧ LK w' g b (n + 1) Q' ∧ QR Q' (rmW p.way L) ∧ w.grownBy w' (some b) := by
  have HN := Lib.hid (new1 w (oxC p o) 35)
  obtain ⟨W, hW⟩ : ∃ W, W = w.alloc (.cells (oxC p o) 35) := ⟨_, rfl⟩
  have HW := Lib.hid hW.symm
  rw [← hW] at HN
  clear hW
  obtain ⟨pk, ⟨p1, p2⟩, px⟩ := p
  dsimp only at HN HW hwf hk ⊢
  subst hk
  have HB := Lib.hid HN.out.2
  have HR := Lib.hid (hr.keeps (keeps_below HB.out))
  have HLK := Lib.hid (h.below HB.out)
  have HQ := Lib.hid hq
  have HL := Lib.hid hL
  have HZ := Lib.hid (hdL_sm (x := (p1, p2)) hs)
  clear hL hq hr h hs
  obtain ⟨y0, y1, y2, -⟩ := cells16 HN.out.1
  dsimp only at y0 y1 y2
  have HNX := Lib.hid (rnext_is L A N c p1 p2 W HL.out hN HR.out)
  have HNY := Lib.hid (fun (wx : World) (hb : Below W.heap.size W wx) => next_row g b n Q L p1 p2 wx (HLK.out.below hb) HQ.out hwf (Nat.lt_of_le_of_lt hn (by decide)))
  generalize hdL (p1, p2) L = z at HNX HNY HZ
  generalize (hdW (p1, p2) L).isSome = d at HNX HNY
  go_enter Try.func11, Try.ntmps11
  go_upto_region 1 with fail
  rw [HW.out]
  go_upto_region 7 with (go_at_call 20; refine Calls.mono HNX.out ?_; (rintro e w2 ⟨v, o2, rfl, ho2, how, hb2⟩; have HO2 := Lib.hid ho2; have HOW := Lib.hid how; have HB2 := Lib.hid hb2; clear ho2 how hb2))
  obtain ⟨A2, c2, hv, hrd⟩ := HOW.out.read HB2.out
  subst hv
  have HRD := Lib.hid (hrd.keeps (keeps_below ((Below.refl _ _).alloc (Nat.le_refl _) (.cells (ltC z o2).toArray 33))))
  have HO3 := Lib.hid (HO2.out.keeps (keeps_below ((Below.refl _ _).alloc (Nat.le_refl _) (.cells (ltC z o2).toArray 33))))
  have HB3 := Lib.hid (HB2.out.alloc HB2.out.size (.cells (ltC z o2).toArray 33))
  have HN3 := Lib.hid (heap_alloc_new w2 (.cells (ltC z o2).toArray 33))
  obtain ⟨w3, hw3⟩ : ∃ w3, w3 = w2.alloc (.cells (ltC z o2).toArray 33) := ⟨_, rfl⟩
  rw [← hw3] at HRD HO3 HB3 HN3
  have hw4 := hw3.symm
  clear hw3 hrd HOW HO2 HB2 HNX
  rw [hw4]
  clear hw4
  have x0 := cell_below HB3.out y0
  have x1 := cell_below HB3.out y1
  have x2 := cell_below HB3.out y2
  go_upto_region 8 with (go_at_call 14; refine Calls.mono (HNY.out _ HB3.out) ?_; (rintro e w5 ⟨o5, Q5, rfl, ho5, hl5, hq5, hg5⟩; have HO5 := Lib.hid ho5; have HL5 := Lib.hid hl5; have HQ5 := Lib.hid hq5; have HK5 := Lib.hid ((HLK.out.below HB3.out).keeps hg5); have HG5 := Lib.hid (grown_2 (HB.out.trans (HB3.out.mono HB.out.size)) hg5); clear ho5 hl5 hq5 hg5))
  have HN5 := Lib.hid (cells13 HN3.out)
  have HL6 := Lib.hid (HL5.out.below ((Below.refl _ _).alloc (Nat.le_refl _) (.cells (ltC z o5).toArray 33)))
  have HO6 := Lib.hid (HO5.out.keeps (keeps_below ((Below.refl _ _).alloc (Nat.le_refl _) (.cells (ltC z o5).toArray 33))))
  have HN6 := Lib.hid (heap_alloc_new w5 (.cells (ltC z o5).toArray 33))
  have HB6 := Lib.hid (show Below w5.heap.size w5 (w5.alloc (.cells (ltC z o5).toArray 33)) from (Below.refl _ _).alloc (Nat.le_refl _) _)
  obtain ⟨w6, hw6⟩ : ∃ w6, w6 = w5.alloc (.cells (ltC z o5).toArray 33) := ⟨_, rfl⟩
  rw [← hw6] at HL6 HO6 HN6 HB6
  have hw7 := hw6.symm
  clear hw6 HL5 HO5
  rw [hw7]
  clear hw7
  have HK6 := Lib.hid (HK5.out.trans (keeps_below HB6.out))
  obtain ⟨a0, a1, a2, a3, a4, a5, a6, a7, a8, a9, a10, a11, a12⟩ := HN5.out
  have a0 := HK6.out _ _ a0
  have a1 := HK6.out _ _ a1
  have a2 := HK6.out _ _ a2
  have a3 := HK6.out _ _ a3
  have a4 := HK6.out _ _ a4
  have a5 := HK6.out _ _ a5
  have a6 := HK6.out _ _ a6
  have a7 := HK6.out _ _ a7
  have a8 := HK6.out _ _ a8
  have a9 := HK6.out _ _ a9
  have a10 := HK6.out _ _ a10
  have a11 := HK6.out _ _ a11
  have a12 := HK6.out _ _ a12
  obtain ⟨b0, b1, b2, b3, b4, b5, b6, b7, b8, b9, b10, b11, b12⟩ := cells13 HN6.out
  clear x0 x1 x2 y0 y1 y2
  have HSAME := Lib.hid (show Calls Try.prog 15 #[ltV z o5, ltV z o2] w6 fun e w' => e = .returned (.bool true) ∧ Below w6.heap.size w6 w' from (lsame_is z z o5 o2 w6 HO6.out (HO3.out.keeps HK6.out) HZ.out.1.fit (Nat.le_trans HZ.out.2 (by omega))).mono fun e w' h => ⟨by rw [h.1, sameL_self], h.2⟩)
  have hdd : (d == d) = true := by simp
  go_wp2_with (go_at_call 15; refine Calls.mono HSAME.out ?_; (rintro e w8 ⟨rfl, hb8⟩; have HB8 := Lib.hid hb8; clear hb8))
  go_ret2
  exact ⟨A2, c2, Q5, rfl, HRD.out.keeps (HK6.out.trans (keeps_below HB8.out)), HL6.out.below HB8.out, HQ5.out, grown_below HG5.out ((HB6.out.trans (HB8.out.mono HB6.out.size)).mono HG5.out.size)⟩
/-- law18.does: any call. -/
theorem does_is (g b n : Nat) (Q : En → List Lt) (L : List Wy) (A : Option Addr) (N c : Nat) (p : Ox) (o : Wh) (w : World) (h : LK w g b n Q) (hq : QR Q L) (hL : L.length = N) (hN : N ≤ 1000) (hn : n ≤ 1000) (hr : RdW w A L) (hO : LtO w p.x o) (hwf : p.way.wf) (ht : Tiny p.x.rep) (ha : p.x.args.length ≤ 100) (hs : SmL L) :
    Calls Try.prog 11 #[.pointer (some ⟨g, 0, none⟩), .slice A N c, oxV p o] w fun e w' => ∃ A' c' Q', e = .returned (.tuple #[.slice A' (stepL p L).length c', .bool true]) ∧ RdW w' A' (stepL p L) ∧ LK w' g b (n + 1) Q' ∧ QR Q' (stepL p L) ∧ w.grownBy w' (some b) := by
  by_cases h0 : p.kind = 0
  · refine (does0_is g b n Q L A N c p o w h hq hL hN hn hr hO hwf ht ha h0).mono fun e w' ⟨A', c', he, h1, h2, h3⟩ => ⟨A', c', _, ?_, ?_, h2, ?_, h3⟩
    · unfold stepL; rw [if_pos h0, he]; simp [hL]
    · unfold stepL; rw [if_pos h0]; exact h1
    · unfold stepL; rw [if_pos h0]; exact hq.add _ _
  by_cases h1 : p.kind = 1
  · refine (does1_is g b n Q L A N c p o w h hq hL hN hn hr hwf hs h1).mono fun e w' ⟨A', c', Q', he, h2, h3, h4, h5⟩ => ⟨A', c', Q', ?_, ?_, h3, ?_, h5⟩
    · unfold stepL; rw [if_neg h0, if_pos h1]; exact he
    · unfold stepL; rw [if_neg h0, if_pos h1]; exact h2
    · unfold stepL; rw [if_neg h0, if_pos h1]; exact h4
  have e : stepL p L = L := by unfold stepL; rw [if_neg h0, if_neg h1]
  rw [e]
  have HN := Lib.hid (new1 w (oxC p o) 35)
  have HH := Lib.hid h
  have HQ := Lib.hid hq
  have HR := Lib.hid hr
  have HL := Lib.hid hL
  obtain ⟨pk, ⟨p1, p2⟩, px⟩ := p
  dsimp only at HN h0 h1
  have e0 : (pk == 0) = false := by simpa using h0
  have e1 : (pk == 1) = false := by simpa using h1
  obtain ⟨y0, y1, y2, -⟩ := cells16 HN.out.1
  dsimp only at y0
  clear h hq hr hL h0 h1 e hO hwf ht ha hs
  refine Calls.mono (R := fun e w' => e = .returned (.tuple #[.slice A N c, .bool true]) ∧ Below w.heap.size w w') ?_ fun e w' ⟨he, hb⟩ => ⟨A, c, Q, by rw [HL.out]; exact he, HR.out.keeps (keeps_below hb), (HH.out.below hb).mono (by omega), HQ.out, ⟨hb.os, hb.tape, hb.output, hb.size, fun k hk _ => hb.block k hk⟩⟩
  go_enter Try.func11, Try.ntmps11
  go_wp2
  go_ret2
  exact ⟨rfl, HN.out.2⟩
end Go.Proofs.Ytmflalnajinejaa.T
