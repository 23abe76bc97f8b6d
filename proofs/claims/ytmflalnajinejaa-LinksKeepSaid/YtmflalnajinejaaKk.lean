import Derived.Deep.DeepCutAuto
import Derived.Laws.OwnMore
import Derived.OwnWalk
import Derived.Lib.AppendStr
import Derived.Lib.SliceRun
import Derived.Lib.SmallJoins
import Derived.IntWalk
import Derived.WalkMore
import Derived.Lib.OthersKept
import Derived.Deep.LoopGhost
import Derived.Deep.RegionLaw
import Derived.Deep.AppendLies
import Derived.Test.YtmflalnajinejaaProg
import Derived.Test.YtmflalnajinejaaMem
import Derived.Test.YtmflalnajinejaaBlk
import Derived.Test.YtmflalnajinejaaAp
import Derived.Test.YtmflalnajinejaaKd
import Derived.Test.YtmflalnajinejaaKe
import Derived.Test.YtmflalnajinejaaKf
import Derived.Test.YtmflalnajinejaaKi
import Derived.Test.YtmflalnajinejaaKj
import Derived.Test.YtmflalnajinejaaOwn
import Derived.WalkKit
import Derived.Outline
import Derived.WalkLawsBesides
import Derived.Deep.QuietTactic
import Derived.BigQuiet
import Derived.Lib.Hide
import Derived.Handy
import Derived.Deep.RegionHeld3
import Derived.Deep.DrawnRows
import Derived.KernelRfl
import Derived.Great.Walk
import Derived.Test.YtmflalnajinejaaOwn
namespace Go.Proofs.Ytmflalnajinejaa.T
open Go Go.RowKit Go.Sort Mem Own
set_option maxRecDepth 100000
set_option maxHeartbeats 1000000
set_option linter.unusedVariables false
set_option linter.unusedSimpArgs false

theorem tk (k z : Int) (t : ByteArray) (l : List T) : (T.mk k z t l).k = k := rfl
theorem tz (k z : Int) (t : ByteArray) (l : List T) : (T.mk k z t l).z = z := rfl
theorem tt (k z : Int) (t : ByteArray) (l : List T) : (T.mk k z t l).t = t := rfl
theorem tl (k z : Int) (t : ByteArray) (l : List T) : (T.mk k z t l).l = l := rfl
def CopyP (n : Nat) : Prop := ∀ (x : T) (A : Option Addr) (c : Nat) (w : World), x.sz ≤ n → RdT w A x → Tiny x →
  Calls Try.prog 24 #[tV x.k x.z x.t A x.l.length c] w fun e w' => ∃ A' c', e = .returned (tV x.k x.z x.t A' x.l.length c') ∧ RdO w.heap.size w' A' x ∧ Below w.heap.size w w'
theorem sets_ok {w : World} {g o T : Nat} {cur : Array Value} (h : w.heap[g]? = some (.cells cur T (0, 0))) (hs : o + 4 ≤ cur.size) :
    (∃ v, w.cell? ⟨g, o, none⟩ = some v) ∧ (∃ v, w.cell? ⟨g, o + 1, none⟩ = some v) ∧ (∃ v, w.cell? ⟨g, o + 2, none⟩ = some v) ∧ ∃ v, w.cell? ⟨g, o + 3, none⟩ = some v := by
  simp only [of_blk h]
  exact ⟨⟨_, Array.getElem?_eq_getElem (by omega)⟩, ⟨_, Array.getElem?_eq_getElem (by omega)⟩, ⟨_, Array.getElem?_eq_getElem (by omega)⟩, ⟨_, Array.getElem?_eq_getElem (by omega)⟩⟩
theorem RowP.keeps {l : List T} {i g : Nat} {w0 w w' : World} {cur : Array Value} (h : RowP l i g w0 w cur) (hk : KeepsFrom (g + 1) w w') : RowP l i g w0 w' cur := by
  intro j hj
  obtain ⟨A, c, h0, h1, h2, h3, h4, h5⟩ := h j hj
  exact ⟨A, c, h0, h1, h2, h3, fun e => (h4 e).keeps hk, h5⟩
set_option maxHeartbeats 2000000 in
/-- links.copied -/
theorem copied_all (n : Nat) : CopyP n := by
  induction n with
  | zero => intro x A c w h; have := sz_pos x; omega
  | succ n ih =>
    intro x A c w hs hr ht
    have HIH := Lib.hid (fun (i : Nat) (h1 : i < x.l.length) (A' : Option Addr) (c' : Nat) (w' : World) (ha : RdT w' A' x.l[i]) => ih (x.l[i]) A' c' w' (by have := sz_lt (List.getElem_mem h1 : x.l[i] ∈ x.l); omega) ha (ht.mem (List.getElem_mem h1)))
    have hlen := ht.len
    have HR := Lib.hid hr.rda
    have HN := Lib.hid (new2 w #[.int .i64 x.k, .int .i64 x.z, .string x.t, .slice A x.l.length c] #[.int .i64 0, .int .i64 0, .string ⟨#[]⟩, .slice none 0 0] 31 31)
    clear ih hs hr ht
    obtain ⟨k, z, t, l⟩ := x
    simp only [tk, tz, tt, tl] at HN HIH HR hlen ⊢
    obtain ⟨N, hN⟩ : ∃ N, N = l.length := ⟨_, rfl⟩
    have HL := Lib.hid hN
    rw [← hN] at HN hlen ⊢
    clear hN
    have HC := Lib.hid (fun (W : World) (hb : Below w.heap.size w W) => clone34_is A N c W (by rw [HL.out]; exact cl_pre (HR.out.keeps (keeps_below hb))) (by omega) (by
      intro hA
      rcases HR.out with h | ⟨b, off, e, _⟩
      · rw [HL.out, h]; rfl
      · rw [hA] at e; cases e))
    obtain ⟨W, hW⟩ : ∃ W, W = (w.alloc (.cells #[.int .i64 k, .int .i64 z, .string t, .slice A N c] 31)).alloc (.cells #[.int .i64 0, .int .i64 0, .string ⟨#[]⟩, .slice none 0 0] 31) := ⟨_, rfl⟩
    have HW := Lib.hid hW
    rw [← hW] at HN
    clear hW
    cases A with
    | none =>
      have hz : N = 0 := by
        rcases HR.out with h | ⟨b, off, e, _⟩
        · rw [HL.out, h]; rfl
        · cases e
      subst hz
      have HC1 := Lib.hid ((HC.out W HN.out.2.2).mono (R' := fun e w' => e = .returned (.slice none 0 0) ∧ Below W.heap.size W w') (by
        rintro e w' ⟨hb, h | ⟨g, cap, cur, h, _⟩⟩
        · exact ⟨h.2.2, hb⟩
        · cases h))
      go_enter Try.func24, Try.ntmps24
      go_upto_region 1 with fail
      rw [← HW.out]
      obtain ⟨x0, x1, x2, x3⟩ := cells4 HN.out.1
      obtain ⟨f0, f1, f2, f3⟩ := frees4 HN.out.1
      go_wp2_with (go_at_call 34; refine Calls.mono HC1.out ?_; (rintro e w2 ⟨rfl, hb2⟩; have HB2 := Lib.hid (HN.out.2.2.trans (hb2.mono HN.out.2.2.size)); have HX2 := Lib.hid (keep_blk hb2 HN.out.1); have HY2 := Lib.hid (keep_blk hb2 HN.out.2.1); clear hb2 x0 x1 x2 x3 f0 f1 f2 f3; obtain ⟨x0, x1, x2, x3⟩ := cells4 HX2.out; obtain ⟨f0, f1, f2, f3⟩ := frees4 HX2.out; obtain ⟨y0, y1, y2, y3⟩ := cells4 HY2.out; obtain ⟨e0, e1, e2, e3⟩ := frees4 HY2.out))
      go_loopw [12] (fun s12 wr => s12 = .int .i64 0 ∧ RowKit.Hid (wr.heap[w.heap.size]? = some (.cells #[.int .i64 k, .int .i64 z, .string t, .slice none 0 0] 31 (0, 0))) ∧ RowKit.Hid (wr.heap[w.heap.size + 1]? = some (.cells #[.int .i64 0, .int .i64 0, .string ⟨#[]⟩, .slice none 0 0] 31 (0, 0))) ∧ RowKit.Hid (Below w.heap.size w wr)) (fun _ _ => 0)
      case atStart => exact ⟨rfl, Lib.hid (by have := blk_set (i := 3) HX2.out (.slice none 0 0); simpa using this), Lib.hid (by rw [Below.heap_setCell _ _ _ _ (by simp)]; exact HY2.out), Lib.hid (HB2.out.setCell (p := ⟨_, _, none⟩) (Nat.le_refl _) _)⟩
      case round =>
        obtain ⟨rfl, HX3, HY3, HB3⟩ := hrel
        obtain ⟨x0, x1, x2, x3⟩ := cells4 HX3.out
        obtain ⟨y0, y1, y2, y3⟩ := cells4 HY3.out
        obtain ⟨e0, e1, e2, e3⟩ := frees4 HY3.out
        go_wp2
        refine ret_one rfl rfl (sets4 _ _ _ _ HY3.out) ?_
        refine ⟨none, 0, by rw [HL.out], ?_, below_sets4 HB3.out (by omega)⟩
        intro w' _
        exact .inl (List.eq_nil_of_length_eq_zero HL.out.symm)
    | some a =>
      have HC1 := Lib.hid ((HC.out W HN.out.2.2).mono fun e w' h => cl_row (l := l) HL.out.symm HR.out HN.out.2.2 h rfl)
      have hWz : W.heap.size = w.heap.size + 2 := by rw [HW.out, alloc_size, alloc_size]
      have HWZ := Lib.hid hWz
      clear hWz
      go_enter Try.func24, Try.ntmps24
      go_upto_region 1 with fail
      rw [← HW.out]
      obtain ⟨x0, x1, x2, x3⟩ := cells4 HN.out.1
      obtain ⟨f0, f1, f2, f3⟩ := frees4 HN.out.1
      go_wp2_with (go_at_call 34; refine Calls.mono HC1.out ?_; (rintro e w2 ⟨g, cap, cur, rfl, hg, hnc, hcm, hgb, hcs, hrow, hb2⟩; have HB2 := Lib.hid (HN.out.2.2.trans (hb2.mono HN.out.2.2.size)); have HX2 := Lib.hid (keep_blk hb2 HN.out.1); have HY2 := Lib.hid (keep_blk hb2 HN.out.2.1); have HG := Lib.hid hg; have HGB := Lib.hid hgb; have HROW := Lib.hid hrow; have HCS := Lib.hid hcs; clear hb2 hg hgb hrow hcs x0 x1 x2 x3 f0 f1 f2 f3; obtain ⟨x0, x1, x2, x3⟩ := cells4 HX2.out; obtain ⟨f0, f1, f2, f3⟩ := frees4 HX2.out))
      have HGW := Lib.hid (show w.heap.size + 2 ≤ g by have := HG.out; rw [HWZ.out] at this; exact this)
      go_loopw [12] (fun s12 wr => ∃ i : Nat, i ≤ N ∧ s12 = .int .i64 i ∧ RowKit.Hid (CInv l k z t g cap i w wr)) (fun s12 _ => N - (intOf s12).toNat)
      case atStart =>
        refine ⟨0, Nat.zero_le _, rfl, Lib.hid ⟨cur, ?_, HCS.out, ?_, ?_, ?_, HB2.out.setCell (p := ⟨_, _, none⟩) (Nat.le_refl _) _⟩⟩
        · rw [Below.heap_setCell _ _ _ _ (by have := HGW.out; simp; omega)]; exact HGB.out
        · intro j hj
          obtain ⟨A1, c1, q0, q1, q2, q3, q4, q5⟩ := HROW.out j hj
          exact ⟨A1, c1, q0, q1, q2, q3, fun h => by omega, q5⟩
        · have := blk_set (i := 3) HX2.out (.slice (some ⟨g, 0, none⟩) N cap)
          rw [← HL.out]
          simpa using this
        · rw [Below.heap_setCell _ _ _ _ (by simp)]; exact HY2.out
      case round =>
        obtain ⟨i, hiL, rfl, HI⟩ := hrel
        obtain ⟨cu, i1, i2, i3, i4, i5, i6⟩ := HI.out
        have I1 := Lib.hid i1; have I2 := Lib.hid i2; have I3 := Lib.hid i3; have I4 := Lib.hid i4; have I5 := Lib.hid i5; have I6 := Lib.hid i6
        clear i1 i2 i3 i4 i5 i6
        rw [← HL.out] at I4
        by_cases hlt : i < N
        · have hlt2 := Lib.hid (show i < l.length by rw [← HL.out]; exact hlt)
          obtain ⟨A1, c1, q0, q1, q2, q3, q4, q5⟩ := I3.out i hlt2.out
          have g0 : wr.cell? ⟨g, i * 4, none⟩ = some (.int .i64 (l[i]'hlt2.out).k) := by rw [of_blk I1.out]; exact q0
          have g1 : wr.cell? ⟨g, i * 4 + 1, none⟩ = some (.int .i64 (l[i]'hlt2.out).z) := by rw [of_blk I1.out]; exact q1
          have g2 : wr.cell? ⟨g, i * 4 + 2, none⟩ = some (.string (l[i]'hlt2.out).t) := by rw [of_blk I1.out]; exact q2
          have g3 : wr.cell? ⟨g, i * 4 + 3, none⟩ = some (.slice A1 (l[i]'hlt2.out).l.length c1) := by rw [of_blk I1.out]; exact q3
          have HY := Lib.hid ((q5 (Nat.le_refl _)).below I6.out)
          clear q0 q1 q2 q3 q4 q5
          have HIY := Lib.hid (HIH.out i hlt2.out)
          have HST := Lib.hid (fun (w2 : World) (A' : Option Addr) (c' : Nat) (hk : KeepsFrom (g + 1) wr w2) (hrd : RdO (g + 1) w2 A' (l[i]'hlt2.out)) => rowP_step (c := c') hlt2.out I3.out (by rw [I2.out, ← HL.out]; omega) hk hrd)
          generalize l[i]'hlt2.out = y at g0 g1 g2 g3 HY HIY HST
          obtain ⟨M, hM⟩ : ∃ M, M = y.l.length := ⟨_, rfl⟩
          have HM := Lib.hid hM
          rw [← hM] at g3
          clear hM
          go_upto_region 4 with fail
          go_cut [3, 4] (fun s3 s4 wx => s3 = .int .i64 i ∧ ∃ b4 : Nat, s4 = .pointer (some ⟨b4, 0, none⟩) ∧ RowKit.Hid (wx.heap[b4]? = some (.cells #[.int .i64 y.k, .int .i64 y.z, .string y.t, .slice A1 M c1] 31 (0, 0))) ∧ RowKit.Hid (Below wr.heap.size wr wx))
          case first =>
            go_wp2
            go_meet
            exact ⟨rfl, _, rfl, Lib.hid (heap_alloc_new wr _), Lib.hid ((Below.refl _ _).alloc (Nat.le_refl _) _)⟩
          case rest =>
            obtain ⟨rfl, b4, rfl, H4, HB4⟩ := hcut
            obtain ⟨w4, hw4⟩ : ∃ w4, w4 = wc := ⟨_, rfl⟩
            rw [← hw4] at H4 HB4 ⊢
            clear hw4
            have hzr := I6.out.size
            have HGL := Lib.hid (lt_of_blk I1.out)
            have HI4 := Lib.hid ((HIY.out A1 c1 w4.drew ((HY.out.below HB4.out).below ((Below.refl _ _).drew))).mono (R' := fun e w' => ∃ A' c', e = .returned (tV y.k y.z y.t A' y.l.length c') ∧ RdO w4.heap.size w' A' y ∧ Below w4.heap.size w4 w') (fun e w' ⟨A', c', h1, h2, h3⟩ => ⟨A', c', h1, h2, ((Below.refl _ _).drew).trans h3⟩))
            have HGK := Lib.hid (keep_blk HB4.out I1.out)
            obtain ⟨y0, y1, y2, y3⟩ := cells4 H4.out
            obtain ⟨x0, x1, x2, x3⟩ := cells4 (keep_blk HB4.out I4.out)
            have HST2 := Lib.hid (fun (w2 : World) (A' : Option Addr) (c' : Nat) (hb : Below w4.heap.size w4 w2) (hrd : RdO w4.heap.size w2 A' y) => HST.out w2 A' c' ((keeps_below (HB4.out.trans (hb.mono HB4.out.size))).fromAt _) (hrd.mono (by have := HGL.out; have := HB4.out.size; omega)))
            clear g0 g1 g2 g3 HIY HST
            rw [← HM.out] at HI4
            go_wp2_with fail
            go_region_with ((go_at_call 24; refine Calls.mono HI4.out ?_; (rintro e w2 ⟨A2, c2, rfl, hrd, hb2⟩; have HS2 := Lib.hid (HST2.out w2 A2 c2 hb2 hrd); have HG2 := Lib.hid (keep_blk hb2 HGK.out); have HX2 := Lib.hid (keep_blk hb2 (keep_blk HB4.out I4.out)); have HY2 := Lib.hid (keep_blk hb2 (keep_blk HB4.out I5.out)); have HB2 := Lib.hid ((I6.out.trans (HB4.out.mono hzr)).trans (hb2.mono (Nat.le_trans hzr HB4.out.size))); clear hb2 hrd; obtain ⟨z0, z1, z2, z3⟩ := cells4 HX2.out; obtain ⟨⟨v0, g0⟩, ⟨v1, g1⟩, ⟨v2, g2⟩, ⟨v3, g3⟩⟩ := sets_ok HG2.out (show i * 4 + 4 ≤ cu.size by rw [I2.out]; omega); have k0 := of_blk_free HG2.out (i * 4); have k1 := of_blk_free HG2.out (i * 4 + 1); have k2 := of_blk_free HG2.out (i * 4 + 2); have k3 := of_blk_free HG2.out (i * 4 + 3))))
            all_goals
              go_wp2
              refine ⟨⟨i + 1, by omega, by go_num, Lib.hid ⟨_, blk_set4 HG2.out _ _ _ _, by simpa using I2.out, ?_, ?_, ?_, ?_⟩⟩, by simp [intOf]; omega⟩
              · have := HS2.out
                rw [← HM.out] at this
                exact this.keeps (kf_set4 (by omega) _ _ _ _)
              · have hne := HGW.out
                rw [← HL.out]
                exact blk_off (by omega) (blk_off (by omega) (blk_off (by omega) (blk_off (by omega) HX2.out)))
              · have hne := HGW.out
                exact blk_off (by omega) (blk_off (by omega) (blk_off (by omega) (blk_off (by omega) HY2.out)))
              · have hne := HGW.out
                exact (((HB2.out.setCell (p := ⟨g, _, none⟩) (by show _ ≤ g; omega) _).setCell (p := ⟨g, _, none⟩) (by show _ ≤ g; omega) _).setCell (p := ⟨g, _, none⟩) (by show _ ≤ g; omega) _).setCell (p := ⟨g, _, none⟩) (by show _ ≤ g; omega) _
        · have hN : i = N := by omega
          subst hN
          obtain ⟨x0, x1, x2, x3⟩ := cells4 I4.out
          obtain ⟨y0, y1, y2, y3⟩ := cells4 I5.out
          obtain ⟨e0, e1, e2, e3⟩ := frees4 I5.out
          go_wp2
          refine ret_one rfl rfl (sets4 _ _ _ _ I5.out) ?_
          refine ⟨some ⟨g, 0, none⟩, cap, rfl, ?_, below_sets4 I6.out (by omega)⟩
          have h1 := rowP_done (B := w.heap.size + 2) (k := k) (z := z) (t := t) HGW.out I1.out (by have := I3.out; rw [HL.out] at this; exact this)
          exact (h1.keeps (kf_set4 (o := 0) (by omega) _ _ _ _)).mono (by omega)
theorem copied_is (x : T) (A : Option Addr) (c : Nat) (w : World) (hr : RdT w A x) (ht : Tiny x) :
    Calls Try.prog 24 #[tV x.k x.z x.t A x.l.length c] w fun e w' => ∃ A' c', e = .returned (tV x.k x.z x.t A' x.l.length c') ∧ RdO w.heap.size w' A' x ∧ Below w.heap.size w w' := copied_all x.sz x A c w (Nat.le_refl _) hr ht
end Go.Proofs.Ytmflalnajinejaa.T
