import Derived.Deep.DeepCutAuto
import Derived.Laws.OwnMore
import Derived.OwnWalk
import Derived.Lib.AppendStr
import Derived.Lib.SliceRun
import Derived.Lib.SmallJoins
import Derived.IntWalk
import Derived.WalkMore
import Derived.Lib.OthersKept
import Derived.Deep.LoopGhost
import Derived.Deep.RegionLaw
import Derived.Deep.AppendLies
import Derived.Test.YtmflalnajinejaaProg
import Derived.Test.YtmflalnajinejaaMem
import Derived.Test.YtmflalnajinejaaBlk
import Derived.Test.YtmflalnajinejaaAp
import Derived.Test.YtmflalnajinejaaKa
import Derived.Test.YtmflalnajinejaaKd
import Derived.Test.YtmflalnajinejaaKe
import Derived.Test.YtmflalnajinejaaMa
import Derived.WalkKit
import Derived.Outline
import Derived.WalkLawsBesides
import Derived.Deep.QuietTactic
import Derived.BigQuiet
import Derived.Lib.Hide
import Derived.Handy
import Derived.Deep.RegionHeld3
import Derived.Deep.DrawnRows
import Derived.KernelRfl
import Derived.Great.Walk
import Derived.Test.YtmflalnajinejaaOwn
namespace Go.Proofs.Ytmflalnajinejaa.T
open Go Go.RowKit Go.Sort Mem Own
set_option maxRecDepth 100000
set_option maxHeartbeats 1000000
set_option linter.unusedVariables false
set_option linter.unusedSimpArgs false

theorem cells16 {w : World} {b T : Nat} {v0 v1 v2 v3 v4 v5 v6 v7 v8 v9 v10 v11 v12 v13 v14 v15 : Value} (h : w.heap[b]? = some (.cells #[v0, v1, v2, v3, v4, v5, v6, v7, v8, v9, v10, v11, v12, v13, v14, v15] T (0, 0))) :
    w.cell? ⟨b, 0, none⟩ = some v0 ∧ w.cell? ⟨b, 1, none⟩ = some v1 ∧ w.cell? ⟨b, 2, none⟩ = some v2 ∧ w.cell? ⟨b, 3, none⟩ = some v3 ∧ w.cell? ⟨b, 4, none⟩ = some v4 ∧ w.cell? ⟨b, 5, none⟩ = some v5 ∧ w.cell? ⟨b, 6, none⟩ = some v6 ∧ w.cell? ⟨b, 7, none⟩ = some v7 ∧ w.cell? ⟨b, 8, none⟩ = some v8 ∧ w.cell? ⟨b, 9, none⟩ = some v9 ∧ w.cell? ⟨b, 10, none⟩ = some v10 ∧ w.cell? ⟨b, 11, none⟩ = some v11 ∧ w.cell? ⟨b, 12, none⟩ = some v12 ∧ w.cell? ⟨b, 13, none⟩ = some v13 ∧ w.cell? ⟨b, 14, none⟩ = some v14 ∧ w.cell? ⟨b, 15, none⟩ = some v15 :=
  ⟨of_blk h 0, of_blk h 1, of_blk h 2, of_blk h 3, of_blk h 4, of_blk h 5, of_blk h 6, of_blk h 7, of_blk h 8, of_blk h 9, of_blk h 10, of_blk h 11, of_blk h 12, of_blk h 13, of_blk h 14, of_blk h 15⟩
/-- The cells of a call, one by one. -/
theorem OxAt.cells {w : World} {b off : Nat} {p : Ox} (h : OxAt w b off p) : ∃ o, LtO w p.x o ∧ w.cell? ⟨b, off, none⟩ = some (.int .i64 p.kind) ∧ w.cell? ⟨b, off + 1, none⟩ = some (.int .i64 p.way.1) ∧ w.cell? ⟨b, off + 2, none⟩ = some (.int .i64 p.way.2) ∧
    w.cell? ⟨b, off + 3, none⟩ = some (.int .i64 p.x.kind) ∧ w.cell? ⟨b, off + 4, none⟩ = some (.int .i64 p.x.num) ∧ w.cell? ⟨b, off + 5, none⟩ = some (.int .i64 p.x.slot) ∧ w.cell? ⟨b, off + 6, none⟩ = some (.int .i64 p.x.ends) ∧ w.cell? ⟨b, off + 7, none⟩ = some (.string p.x.key) ∧ w.cell? ⟨b, off + 8, none⟩ = some (.string p.x.text) ∧ w.cell? ⟨b, off + 9, none⟩ = some (.slice o.a p.x.args.length o.ac) ∧ w.cell? ⟨b, off + 10, none⟩ = some (.int .i64 p.x.rep.k) ∧ w.cell? ⟨b, off + 11, none⟩ = some (.int .i64 p.x.rep.z) ∧ w.cell? ⟨b, off + 12, none⟩ = some (.string p.x.rep.t) ∧ w.cell? ⟨b, off + 13, none⟩ = some (.slice o.r p.x.rep.l.length o.rc) ∧ w.cell? ⟨b, off + 14, none⟩ = some (.bool p.x.good) ∧ w.cell? ⟨b, off + 15, none⟩ = some (.int .i64 p.x.asking) := by
  obtain ⟨h0, h1, h2, o, h3, h4⟩ := h
  exact ⟨o, h3, h0, h1, h2, h4 0 _ rfl, h4 1 _ rfl, h4 2 _ rfl, h4 3 _ rfl, h4 4 _ rfl, h4 5 _ rfl, h4 6 _ rfl, h4 7 _ rfl, h4 8 _ rfl, h4 9 _ rfl, h4 10 _ rfl, h4 11 _ rfl, h4 12 _ rfl⟩
abbrev oxC (p : Ox) (o : Wh) : Array Value := #[.int .i64 p.kind, .int .i64 p.way.1, .int .i64 p.way.2, .int .i64 p.x.kind, .int .i64 p.x.num, .int .i64 p.x.slot, .int .i64 p.x.ends, .string p.x.key, .string p.x.text, .slice o.a p.x.args.length o.ac, .int .i64 p.x.rep.k, .int .i64 p.x.rep.z, .string p.x.rep.t, .slice o.r p.x.rep.l.length o.rc, .bool p.x.good, .int .i64 p.x.asking]
/-- law18.few, of one call. -/
def fewO (p : Ox) : Bool := smallB 0 p.x.rep && decide (p.x.args.length ≤ 100)
def fewB (l : List Ox) : Bool := decide (l.length ≤ 200) && l.all fewO
theorem few_no {l : List Ox} (h : 200 < l.length) : fewB l = false := by unfold fewB; simp; omega
theorem few_yes {l : List Ox} (h : ¬ 200 < l.length) : fewB l = l.all fewO := by unfold fewB; simp; omega
set_option maxHeartbeats 4000000 in
theorem few_is (l : List Ox) (A : Option Addr) (n c : Nat) (w : World) (hl : l.length = n) (hr : RdX w A l) :
    Calls Try.prog 9 #[.slice A n c] w fun e w' => e = .returned (.bool (fewB l)) ∧ Below w.heap.size w w' := by
  have HR := Lib.hid hr
  have HL := Lib.hid hl
  have HS1 := Lib.hid (few_no (l := l))
  have HS2 := Lib.hid (few_yes (l := l))
  clear hr hl
  generalize fewB l = sb at HS1 HS2 ⊢
  by_cases h1 : 200 < n
  · have hsb : sb = false := HS1.out (by rw [HL.out]; exact h1)
    subst hsb
    have h2c : decide ((200 : Int) < (n : Int)) = true := by simp; omega
    go_enter Try.func9, Try.ntmps9
    go_wp2
    go_ret
    exact ⟨rfl, Below.refl _ _⟩
  have HSB := Lib.hid (HS2.out (by rw [HL.out]; exact h1))
  have h2b : decide ((200 : Int) < (n : Int)) = false := by simp; omega
  have hn200 : n ≤ 200 := by omega
  clear HS1 HS2 h1
  go_enter Try.func9, Try.ntmps9
  go_wp2_with fail
  go_loopw [10] (fun s10 wr => ∃ i : Nat, i ≤ n ∧ s10 = .int .i64 i ∧ RowKit.Hid ((l.take i).all fewO = true) ∧ RowKit.Hid (Below w.heap.size w wr)) (fun s10 _ => n - (intOf s10).toNat)
  case atStart => exact ⟨0, Nat.zero_le _, rfl, Lib.hid (by simp), Lib.hid (Below.refl _ _)⟩
  case round =>
    obtain ⟨i, hiL, rfl, HA, HB⟩ := hrel
    have hzr := HB.out.size
    by_cases hlt : i < n
    · have hlt2 := Lib.hid (show i < l.length by rw [HL.out]; exact hlt)
      obtain ⟨b, off, rfl, hrow⟩ := HR.out.row (Nat.zero_lt_of_lt hlt2.out)
      obtain ⟨o, hx, g0, g1, g2, g3, g4, g5, g6, g7, g8, g9, g10, g11, g12, g13, g14, g15⟩ := ((hrow i hlt2.out).keeps (keeps_below HB.out)).cells
      have HX := Lib.hid hx
      have HT := Lib.hid (fun hp => all_take (p := fewO) hlt2.out HA.out hp)
      have HF := Lib.hid (fun hp => all_not (p := fewO) hlt2.out hp)
      clear hrow hx
      generalize l[i]'hlt2.out = p at g0 g1 g2 g3 g4 g5 g6 g7 g8 g9 g10 g11 g12 g13 g14 g15 HX HT HF
      go_upto_region 5 with fail
      go_cut [4] (fun s4 wx => ∃ b6 : Nat, s4 = .pointer (some ⟨b6, 0, none⟩) ∧ RowKit.Hid (wx.heap[b6]? = some (.cells (oxC p o) 35 (0, 0))) ∧ RowKit.Hid (LtO wx p.x o) ∧ RowKit.Hid (Below w.heap.size w wx))
      case first =>
        go_wp2
        go_meet
        exact ⟨_, rfl, Lib.hid (heap_alloc_new wr _), Lib.hid (HX.out.keeps (keeps_below ((Below.refl _ _).alloc (Nat.le_refl _) _))), Lib.hid (HB.out.alloc hzr _)⟩
      case rest =>
        obtain ⟨b6, rfl, H6, HX1, HB1⟩ := hcut
        obtain ⟨pk, ⟨p1, p2⟩, px⟩ := p
        obtain ⟨_, _, _, _, _, _, _, _, _, y9, y10, y11, y12, y13, _, _⟩ := cells16 H6.out
        dsimp only at y9 y10 y11 y12 y13
        obtain ⟨N, hN⟩ : ∃ N, N = px.args.length := ⟨_, rfl⟩
        have HNQ := Lib.hid hN
        rw [← hN] at y9
        clear hN g0 g1 g2 g3 g4 g5 g6 g7 g8 g9 g10 g11 g12 g13 g14 g15
        have HSM := Lib.hid (small_is px.rep.sz px.rep 0 o.r o.rc wc (Nat.le_refl _) HX1.out.2 (by omega) (by omega))
        obtain ⟨sy, hsy⟩ : ∃ sy, smallB 0 px.rep = sy := ⟨_, rfl⟩
        have HSY := Lib.hid hsy
        rw [hsy] at HSM
        clear hsy
        have HO := Lib.hid (show fewO ⟨pk, (p1, p2), px⟩ = (sy && decide (N ≤ 100)) by unfold fewO; dsimp only; rw [HSY.out, HNQ.out])
        cases sy with
        | false =>
          have hsb := HF.out (by rw [HO.out]; rfl)
          rw [← HSB.out] at hsb
          subst hsb
          go_wp2_with (go_at_call 19; refine Calls.mono HSM.out ?_; (rintro e w2 ⟨rfl, hb2⟩; have HB2 := Lib.hid (HB1.out.trans (hb2.mono HB1.out.size)); clear hb2))
          go_ret
          exact ⟨rfl, HB2.out⟩
        | true =>
          by_cases h100 : 100 < N
          · have hsb := HF.out (by rw [HO.out]; simp; omega)
            rw [← HSB.out] at hsb
            subst hsb
            have hdd : decide ((100 : Int) < (N : Int)) = true := by simp; omega
            go_wp2_with (go_at_call 19; refine Calls.mono HSM.out ?_; (rintro e w2 ⟨rfl, hb2⟩; have HB2 := Lib.hid (HB1.out.trans (hb2.mono HB1.out.size)); have y9 := cell_below hb2 y9; clear hb2))
            go_ret
            exact ⟨rfl, HB2.out⟩
          · have HTT := Lib.hid (HT.out (by rw [HO.out]; simp; omega))
            have hdd : decide ((100 : Int) < (N : Int)) = false := by simp; omega
            go_wp2_with (go_at_call 19; refine Calls.mono HSM.out ?_; (rintro e w2 ⟨rfl, hb2⟩; have HB2 := Lib.hid (HB1.out.trans (hb2.mono HB1.out.size)); have y9 := cell_below hb2 y9; clear hb2))
            exact ⟨⟨i + 1, by omega, by go_num, HTT, HB2⟩, by simp [intOf]; omega⟩
    · have hin : i = n := by omega
      subst hin
      have hsb := HA.out
      rw [← HL.out, List.take_length, ← HSB.out] at hsb
      subst hsb
      go_wp2
      go_ret
      exact ⟨rfl, HB.out⟩
end Go.Proofs.Ytmflalnajinejaa.T
