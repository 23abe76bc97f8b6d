import Derived.Deep.DeepCutAuto
import Derived.Laws.OwnMore
import Derived.OwnWalk
import Derived.Lib.AppendStr
import Derived.Lib.SliceRun
import Derived.Lib.SmallJoins
import Derived.IntWalk
import Derived.Lib.ItoaLen
import Derived.WalkMore
import Derived.Lib.AtoiAllCases
import Derived.Lib.OthersKept
import Derived.Laws.Runes
import Derived.Deep.LoopGhost
import Derived.Deep.RegionLaw
import Derived.Deep.AppendLies
import Derived.Test.YteghfinngilfgaaDoorProg
import Derived.Test.YteghfinngilfgaaDoorMem
import Derived.Test.YteghfinngilfgaaDoorZg
import Derived.WalkKit
import Derived.Outline
import Derived.WalkLawsBesides
import Derived.Deep.QuietTactic
import Derived.BigQuiet
import Derived.Lib.Hide
import Derived.Handy
import Derived.Deep.RegionHeld3
import Derived.Deep.DrawnRows
import Derived.KernelRfl
import Derived.Great.Walk
import Derived.Test.YteghfinngilfgaaDoorOwn
namespace Go.Proofs.YteghfinngilfgaaDoor.T
open Go Go.RowKit Go.Sort Mem Own
set_option maxRecDepth 100000
set_option maxHeartbeats 1000000
set_option linter.unusedVariables false
set_option linter.unusedSimpArgs false

theorem enc_facts {x : T} (hs : smallB 0 x = true) (ho : Opd x) : Wf x ∧ wt 0 x ≤ 100000000000000 := ⟨ho.wf hs, wt_ok hs⟩
/-- What Encode gives, in parts. -/
theorem enc_parts (x : T) : (encO x = false ∧ enc 0 x = none) ∨ (encO x = true ∧ enc 0 x = some (encS x).toList) := by
  unfold encO encS
  cases h : enc 0 x with
  | none => exact .inl ⟨rfl, rfl⟩
  | some b => exact .inr ⟨rfl, by simp [ByteArray.toList_eq]⟩
set_option maxHeartbeats 4000000 in
/-- ReplyJoins -/
theorem joins_law (x y : T) (A B : Option Addr) (c d : Nat) (w : World) (hr : RdT w A x) (hr' : RdT w B y) (ho : Opd x) (ho' : Opd y) (hT : Tab w) :
    Calls Tryd.prog 9 #[tV x.k x.z x.t A x.l.length c, tV y.k y.z y.t B y.l.length d] w (Yes w) := by
  have HT := Lib.hid hT
  have HS1 := Lib.hid (fun (wx : World) (hb : Below w.heap.size w wx) => small0 x A c wx (hr.below hb))
  have HS2 := Lib.hid (fun (wx : World) (hb : Below w.heap.size w wx) => small0 y B d wx (hr'.below hb))
  have HA := Lib.hid (fun (wx : World) (hb : Below w.heap.size w wx) => alive_is wx (hT.keep hb))
  have HN := Lib.hid (new2 w #[.int .i64 x.k, .int .i64 x.z, .string x.t, .slice A x.l.length c] #[.int .i64 y.k, .int .i64 y.z, .string y.t, .slice B y.l.length d] 24 24)
  have HF1 := Lib.hid (fun h => enc_facts (x := x) h ho)
  have HF2 := Lib.hid (fun h => enc_facts (x := y) h ho')
  have HE1 := Lib.hid (fun (h : smallB 0 x = true) (wx : World) (hb : Below w.heap.size w wx) => encode_is x A c wx (hr.below hb) (HF1.out h).1 (HF1.out h).2 (hT.keep hb))
  have HE2 := Lib.hid (fun (h : smallB 0 y = true) (wx : World) (hb : Below w.heap.size w wx) => encode_is y B d wx (hr'.below hb) (HF2.out h).1 (HF2.out h).2 (hT.keep hb))
  have HL1 := Lib.hid (fun (h : smallB 0 x = true) (ho : encO x = true) => (show (encS x).size ≤ 100000000000000 ∧ enc 0 x = some (encS x).toList by
    rcases enc_parts x with ⟨h1, -⟩ | ⟨-, h2⟩
    · rw [h1] at ho; cases ho
    · refine ⟨?_, h2⟩
      have := enc_wt (HF1.out h).1 h2
      rw [toList_len] at this
      exact Nat.le_trans this (HF1.out h).2))
  have HL2 := Lib.hid (fun (h : smallB 0 y = true) (ho : encO y = true) => (show (encS y).size ≤ 100000000000000 ∧ enc 0 y = some (encS y).toList by
    rcases enc_parts y with ⟨h1, -⟩ | ⟨-, h2⟩
    · rw [h1] at ho; cases ho
    · refine ⟨?_, h2⟩
      have := enc_wt (HF2.out h).1 h2
      rw [toList_len] at this
      exact Nat.le_trans this (HF2.out h).2))
  have HD1 := Lib.hid (fun (h : smallB 0 x = true) (S : ByteArray) (more : List UInt8) (s : ByteArray) (wx : World) (hb : Below w.heap.size w wx) (he : enc 0 x = some S.toList) (h1 : s.toList = S.toList ++ more) (h2 : s.size ≤ 9223372036854775807) => (show Calls Tryd.prog 14 #[.string s] wx (fun e w' => ∃ A' c', e = .returned (.tuple #[tV x.k x.z x.t A' x.l.length c', .int .i64 (S.size : Int), .int .i64 0]) ∧ RdT w' A' x ∧ Below wx.heap.size wx w') from
    (decode_is x S.toList more s wx he (HF1.out h).1 (HF1.out h).2 h1 h2 (hT.keep hb)).mono fun e w' hR => by
      obtain ⟨A', c', k1, k2, k3⟩ := hR
      rw [toList_len] at k1
      exact ⟨A', c', k1, k2.rd, k3⟩))
  have HD2 := Lib.hid (fun (h : smallB 0 y = true) (S : ByteArray) (more : List UInt8) (s : ByteArray) (wx : World) (hb : Below w.heap.size w wx) (he : enc 0 y = some S.toList) (h1 : s.toList = S.toList ++ more) (h2 : s.size ≤ 9223372036854775807) => (show Calls Tryd.prog 14 #[.string s] wx (fun e w' => ∃ A' c', e = .returned (.tuple #[tV y.k y.z y.t A' y.l.length c', .int .i64 (S.size : Int), .int .i64 0]) ∧ RdT w' A' y ∧ Below wx.heap.size wx w') from
    (decode_is y S.toList more s wx he (HF2.out h).1 (HF2.out h).2 h1 h2 (hT.keep hb)).mono fun e w' hR => by
      obtain ⟨A', c', k1, k2, k3⟩ := hR
      rw [toList_len] at k1
      exact ⟨A', c', k1, k2.rd, k3⟩))
  have HQ1 := Lib.hid (fun (A' : Option Addr) (c' : Nat) (wx : World) (hb : Below w.heap.size w wx) (h : RdT wx A' x) => (show Calls Tryd.prog 16 #[tV x.k x.z x.t A' x.l.length c', tV x.k x.z x.t A x.l.length c] wx (Yes wx) by
    have := rsame_all x.sz x x A' A c' c wx (Nat.le_refl _) h (hr.below hb) ho.fit
    rw [sameB_refl] at this
    exact this))
  have HQ2 := Lib.hid (fun (A' : Option Addr) (c' : Nat) (wx : World) (hb : Below w.heap.size w wx) (h : RdT wx A' y) => (show Calls Tryd.prog 16 #[tV y.k y.z y.t A' y.l.length c', tV y.k y.z y.t B y.l.length d] wx (Yes wx) by
    have := rsame_all y.sz y y A' B c' d wx (Nat.le_refl _) h (hr'.below hb) ho'.fit
    rw [sameB_refl] at this
    exact this))
  clear HF1 HF2 hr hr' ho ho' hT
  generalize encS x = S at HE1 HL1
  generalize encS y = T at HE2 HL2
  generalize encO x = ox at HE1 HL1
  generalize encO y = oy at HE2 HL2
  generalize smallB 0 x = sx at HS1 HE1 HL1 HD1
  generalize smallB 0 y = sy at HS2 HE2 HL2 HD2
  have HR1 := Lib.hid (fun (wx w' : World) (A' : Option Addr) (h : RdT wx A' x) (hb : Below wx.heap.size wx w') => h.below hb)
  have HR2 := Lib.hid (fun (wx w' : World) (A' : Option Addr) (h : RdT wx A' y) (hb : Below wx.heap.size wx w') => h.below hb)
  obtain ⟨R1, hR1⟩ : ∃ R1 : World → Option Addr → Prop, R1 = fun wx A' => RdT wx A' x := ⟨_, rfl⟩
  obtain ⟨R2, hR2⟩ : ∃ R2 : World → Option Addr → Prop, R2 = fun wx A' => RdT wx A' y := ⟨_, rfl⟩
  obtain ⟨e1, he1⟩ : ∃ e1, enc 0 x = e1 := ⟨_, rfl⟩
  obtain ⟨e2, he2⟩ : ∃ e2, enc 0 y = e2 := ⟨_, rfl⟩
  rw [he1] at HL1
  rw [he2] at HL2
  simp only [he1] at HD1
  simp only [he2] at HD2
  have HD1' := Lib.hid (show ∀ (h : sx = true) (S : ByteArray) (more : List UInt8) (s : ByteArray) (wx : World), Below w.heap.size w wx → e1 = some S.toList → s.toList = S.toList ++ more → s.size ≤ 9223372036854775807 → Calls Tryd.prog 14 #[.string s] wx (fun e w' => ∃ A' c', e = .returned (.tuple #[tV x.k x.z x.t A' x.l.length c', .int .i64 (S.size : Int), .int .i64 0]) ∧ R1 w' A' ∧ Below wx.heap.size wx w') by rw [hR1]; exact HD1.out)
  have HD2' := Lib.hid (show ∀ (h : sy = true) (S : ByteArray) (more : List UInt8) (s : ByteArray) (wx : World), Below w.heap.size w wx → e2 = some S.toList → s.toList = S.toList ++ more → s.size ≤ 9223372036854775807 → Calls Tryd.prog 14 #[.string s] wx (fun e w' => ∃ A' c', e = .returned (.tuple #[tV y.k y.z y.t A' y.l.length c', .int .i64 (S.size : Int), .int .i64 0]) ∧ R2 w' A' ∧ Below wx.heap.size wx w') by rw [hR2]; exact HD2.out)
  have HQ1' := Lib.hid (show ∀ (A' : Option Addr) (c' : Nat) (wx : World) (hb : Below w.heap.size w wx) (h : R1 wx A'), Calls Tryd.prog 16 #[tV x.k x.z x.t A' x.l.length c', tV x.k x.z x.t A x.l.length c] wx (Yes wx) by rw [hR1]; exact HQ1.out)
  have HQ2' := Lib.hid (show ∀ (A' : Option Addr) (c' : Nat) (wx : World) (hb : Below w.heap.size w wx) (h : R2 wx A'), Calls Tryd.prog 16 #[tV y.k y.z y.t A' y.l.length c', tV y.k y.z y.t B y.l.length d] wx (Yes wx) by rw [hR2]; exact HQ2.out)
  have HR1' := Lib.hid (show ∀ (wx w' : World) (A' : Option Addr) (h : R1 wx A') (hb : Below wx.heap.size wx w'), R1 w' A' by rw [hR1]; exact HR1.out)
  have HR2' := Lib.hid (show ∀ (wx w' : World) (A' : Option Addr) (h : R2 wx A') (hb : Below wx.heap.size wx w'), R2 w' A' by rw [hR2]; exact HR2.out)
  clear HD1 HD2 HQ1 HQ2 HR1 HR2 hR1 hR2 he1 he2
  generalize x.k = xk at *
  generalize x.z = xz at *
  generalize x.t = xt at *
  generalize x.l.length = xl at *
  generalize y.k = yk at *
  generalize y.z = yz at *
  generalize y.t = yt at *
  generalize y.l.length = yl at *
  go_enter Tryd.func9, Tryd.ntmps9
  go_upto_region 1 with fail
  obtain ⟨w0, hw0⟩ : ∃ w0, w0 = (w.alloc (.cells #[.int .i64 xk, .int .i64 xz, .string xt, .slice A xl c] 24)).alloc (.cells #[.int .i64 yk, .int .i64 yz, .string yt, .slice B yl d] 24) := ⟨_, rfl⟩
  rw [← hw0] at HN ⊢
  clear hw0
  have HB0 := Lib.hid HN.out.2.2
  obtain ⟨x0, x1, x2, x3⟩ := cells4 HN.out.1
  obtain ⟨y0, y1, y2, y3⟩ := cells4 HN.out.2.1
  cases sx with
  | false =>
    go_wp2_with (first
      | (go_at_call 10; refine Calls.mono (HS1.out _ HB0.out) ?_; (rintro e w1 ⟨rfl, hb1⟩; have HB1 := Lib.hid (HB0.out.trans (hb1.mono HB0.out.size)); clear hb1))
      | (go_at_call 11; refine Calls.mono (HA.out _ HB1.out) ?_; (rintro e w2 ⟨rfl, hb2⟩; have HB2 := Lib.hid (HB1.out.trans (hb2.mono HB1.out.size)); clear hb2)))
    go_ret
    exact ⟨rfl, HB2.out⟩
  | true =>
    cases sy with
    | false =>
      go_wp2_with (first
        | ((fail_if_success (have := HX1)); go_at_call 10; refine Calls.mono (HS1.out _ HB0.out) ?_; (rintro e w1 ⟨rfl, hb1⟩; have HB1 := Lib.hid (HB0.out.trans (hb1.mono HB0.out.size)); have HX1 := Lib.hid (keep_blk hb1 HN.out.1); have HY1 := Lib.hid (keep_blk hb1 HN.out.2.1); clear hb1 x0 x1 x2 x3 y0 y1 y2 y3; obtain ⟨x0, x1, x2, x3⟩ := cells4 HX1.out; obtain ⟨y0, y1, y2, y3⟩ := cells4 HY1.out))
        | ((fail_if_success (have := HX2)); go_at_call 10; refine Calls.mono (HS2.out _ HB1.out) ?_; (rintro e w2 ⟨rfl, hb2⟩; have HB2 := Lib.hid (HB1.out.trans (hb2.mono HB1.out.size)); have HX2 := Lib.hid (keep_blk hb2 HX1.out); have HY2 := Lib.hid (keep_blk hb2 HY1.out); clear hb2 x0 x1 x2 x3 y0 y1 y2 y3; obtain ⟨x0, x1, x2, x3⟩ := cells4 HX2.out; obtain ⟨y0, y1, y2, y3⟩ := cells4 HY2.out))
        | (go_at_call 11; refine Calls.mono (HA.out _ HB2.out) ?_; (rintro e w3 ⟨rfl, hb3⟩; have HB3 := Lib.hid (HB2.out.trans (hb3.mono HB2.out.size)); clear hb3)))
      go_ret
      exact ⟨rfl, HB3.out⟩
    | true =>
      by_cases hoo : ox = true ∧ oy = true
      · obtain ⟨rfl, rfl⟩ := hoo
        obtain ⟨k1, k2⟩ := HL1.out rfl rfl
        obtain ⟨k3, k4⟩ := HL2.out rfl rfl
        obtain ⟨ST, hST⟩ : ∃ ST, S ++ T = ST := ⟨_, rfl⟩
        have hSTz : ST.size = S.size + T.size := by rw [← hST, ByteArray.size_append]
        obtain ⟨U, hU⟩ : ∃ U, ST.extract S.size (S.size + T.size) = U := ⟨_, rfl⟩
        have HD1 := Lib.hid (fun (wx : World) (hb : Below w.heap.size w wx) => HD1'.out rfl S T.toList ST wx hb k2 (by rw [← hST, toList_app]) (by omega))
        have HD2 := Lib.hid (fun (wx : World) (hb : Below w.heap.size w wx) => HD2'.out rfl T [] U wx hb k4 (by rw [← hU, ← hSTz, ext_from, ← hST, toList_app, List.drop_left' (toList_len S), List.append_nil]) (by rw [← hU]; simp; omega))
        have HST := Lib.hid hST
        have HU := Lib.hid hU
        have hov : ¬ 9223372036854775807 < S.size + T.size := by omega
        have hle : S.size ≤ ST.size := by omega
        clear HD1' HD2' HL1 HL2 k2 k4 hST hU hSTz
        go_upto_region 5 with (first
          | ((fail_if_success (have := HX1)); go_at_call 10; refine Calls.mono (HS1.out _ HB0.out) ?_; (rintro e w1 ⟨rfl, hb1⟩; have HB1 := Lib.hid (HB0.out.trans (hb1.mono HB0.out.size)); have HX1 := Lib.hid (keep_blk hb1 HN.out.1); have HY1 := Lib.hid (keep_blk hb1 HN.out.2.1); clear hb1 x0 x1 x2 x3 y0 y1 y2 y3; obtain ⟨x0, x1, x2, x3⟩ := cells4 HX1.out; obtain ⟨y0, y1, y2, y3⟩ := cells4 HY1.out))
          | ((fail_if_success (have := HX2)); go_at_call 10; refine Calls.mono (HS2.out _ HB1.out) ?_; (rintro e w2 ⟨rfl, hb2⟩; have HB2 := Lib.hid (HB1.out.trans (hb2.mono HB1.out.size)); have HX2 := Lib.hid (keep_blk hb2 HX1.out); have HY2 := Lib.hid (keep_blk hb2 HY1.out); clear hb2 x0 x1 x2 x3 y0 y1 y2 y3; obtain ⟨x0, x1, x2, x3⟩ := cells4 HX2.out; obtain ⟨y0, y1, y2, y3⟩ := cells4 HY2.out))
          | ((fail_if_success (have := HX3)); go_at_call 12; go_loud (refine Calls.mono (HE1.out (by first | rfl | trivial) _ HB2.out) ?_); (rintro e w3 ⟨rfl, hb3⟩; have HB3 := Lib.hid (HB2.out.trans (hb3.mono HB2.out.size)); have HX3 := Lib.hid (keep_blk hb3 HX2.out); have HY3 := Lib.hid (keep_blk hb3 HY2.out); clear hb3 x0 x1 x2 x3 y0 y1 y2 y3; obtain ⟨x0, x1, x2, x3⟩ := cells4 HX3.out; obtain ⟨y0, y1, y2, y3⟩ := cells4 HY3.out))
          | (go_at_call 12; refine Calls.mono (HE2.out (by first | rfl | trivial) _ HB3.out) ?_; (rintro e w4 ⟨rfl, hb4⟩; have HB4 := Lib.hid (HB3.out.trans (hb4.mono HB3.out.size)); have HX4 := Lib.hid (keep_blk hb4 HX3.out); have HY4 := Lib.hid (keep_blk hb4 HY3.out); clear hb4 x0 x1 x2 x3 y0 y1 y2 y3; obtain ⟨x0, x1, x2, x3⟩ := cells4 HX4.out; obtain ⟨y0, y1, y2, y3⟩ := cells4 HY4.out)))
        go_upto_region 7 with fail
        go_cut [2, 3, 5, 7, 9, 10, 11] (fun s2 s3 s5 s7 s9 s10 s11 wx => ∃ (g1 : Nat) (A1 : Option Addr) (c1 : Nat), s2 = .pointer (some ⟨w.heap.size, 0, none⟩) ∧ s3 = .pointer (some ⟨w.heap.size + 1, 0, none⟩) ∧ s5 = .string S ∧ s7 = .string T ∧ s9 = .pointer (some ⟨g1, 0, none⟩) ∧ s10 = .int .i64 (S.size : Int) ∧ s11 = .int .i64 0 ∧ RowKit.Hid (wx.heap[g1]? = some (.cells #[.int .i64 xk, .int .i64 xz, .string xt, .slice A1 xl c1] 24 (0, 0))) ∧ RowKit.Hid (R1 wx A1) ∧ RowKit.Hid (wx.heap[w.heap.size]? = some (.cells #[.int .i64 xk, .int .i64 xz, .string xt, .slice A xl c] 24 (0, 0))) ∧ RowKit.Hid (wx.heap[w.heap.size + 1]? = some (.cells #[.int .i64 yk, .int .i64 yz, .string yt, .slice B yl d] 24 (0, 0))) ∧ RowKit.Hid (Below w.heap.size w wx))
        case first =>
          go_wp2_with (go_at_call 14; (try rw [HST.out]); refine Calls.mono (HD1.out _ HB4.out) ?_; (rintro e w5 ⟨A1, c1, rfl, hr5, hb5⟩; have HR5 := Lib.hid hr5; have HX5 := Lib.hid (keep_blk hb5 HX4.out); have HY5 := Lib.hid (keep_blk hb5 HY4.out); have HB5 := Lib.hid (HB4.out.trans (hb5.mono HB4.out.size)); clear hr5 hb5 x0 x1 x2 x3 y0 y1 y2 y3))
          go_meet
          exact ⟨_, A1, c1, rfl, rfl, rfl, rfl, rfl, rfl, rfl, Lib.hid (heap_alloc_new w5 _), Lib.hid (HR1'.out _ _ _ HR5.out ((Below.refl _ _).alloc (Nat.le_refl _) _)), Lib.hid (blk_new HX5.out _), Lib.hid (blk_new HY5.out _), Lib.hid (HB5.out.alloc HB5.out.size _)⟩
        case rest =>
          clear HX4 HY4 HB4 HX3 HY3 HB3 HX2 HY2 HB2 HX1 HY1 HB1 HB0 HN x0 x1 x2 x3 y0 y1 y2 y3
          obtain ⟨g1, A1, c1, rfl, rfl, rfl, rfl, rfl, rfl, rfl, HG1, HR1, HX, HY, HB⟩ := hcut
          go_upto_region 10 with fail
          go_cut [2, 3, 5, 7, 9, 10, 11, 12, 13, 14] (fun s2 s3 s5 s7 s9 s10 s11 s12 s13 s14 wx => ∃ (g2 : Nat) (A2 : Option Addr) (c2 : Nat), s2 = .pointer (some ⟨w.heap.size, 0, none⟩) ∧ s3 = .pointer (some ⟨w.heap.size + 1, 0, none⟩) ∧ s5 = .string S ∧ s7 = .string T ∧ s9 = .pointer (some ⟨g1, 0, none⟩) ∧ s10 = .int .i64 (S.size : Int) ∧ s11 = .int .i64 0 ∧ s12 = .pointer (some ⟨g2, 0, none⟩) ∧ s13 = .int .i64 (T.size : Int) ∧ s14 = .int .i64 0 ∧ RowKit.Hid (wx.heap[g2]? = some (.cells #[.int .i64 yk, .int .i64 yz, .string yt, .slice A2 yl c2] 24 (0, 0))) ∧ RowKit.Hid (R2 wx A2) ∧ RowKit.Hid (wx.heap[g1]? = some (.cells #[.int .i64 xk, .int .i64 xz, .string xt, .slice A1 xl c1] 24 (0, 0))) ∧ RowKit.Hid (R1 wx A1) ∧ RowKit.Hid (wx.heap[w.heap.size]? = some (.cells #[.int .i64 xk, .int .i64 xz, .string xt, .slice A xl c] 24 (0, 0))) ∧ RowKit.Hid (wx.heap[w.heap.size + 1]? = some (.cells #[.int .i64 yk, .int .i64 yz, .string yt, .slice B yl d] 24 (0, 0))) ∧ RowKit.Hid (Below w.heap.size w wx))
          case first =>
            go_wp2_with (go_at_call 14; (try rw [HST.out]); (try rw [HU.out]); refine Calls.mono (HD2.out _ HB.out) ?_; (rintro e w5 ⟨A2, c2, rfl, hr5, hb5⟩; have HR5 := Lib.hid hr5; have HR6 := Lib.hid (HR1'.out _ _ _ HR1.out hb5); have HX5 := Lib.hid (keep_blk hb5 HX.out); have HY5 := Lib.hid (keep_blk hb5 HY.out); have HG5 := Lib.hid (keep_blk hb5 HG1.out); have HB5 := Lib.hid (HB.out.trans (hb5.mono HB.out.size)); clear hr5 hb5))
            go_meet
            exact ⟨_, A2, c2, rfl, rfl, rfl, rfl, rfl, rfl, rfl, rfl, rfl, rfl, Lib.hid (heap_alloc_new w5 _), Lib.hid (HR2'.out _ _ _ HR5.out ((Below.refl _ _).alloc (Nat.le_refl _) _)), Lib.hid (blk_new HG5.out _), Lib.hid (HR1'.out _ _ _ HR6.out ((Below.refl _ _).alloc (Nat.le_refl _) _)), Lib.hid (blk_new HX5.out _), Lib.hid (blk_new HY5.out _), Lib.hid (HB5.out.alloc HB5.out.size _)⟩
          case rest =>
            clear HG1 HR1 HX HY HB
            obtain ⟨g2, A2, c2, rfl, rfl, rfl, rfl, rfl, rfl, rfl, rfl, rfl, rfl, HG2, HR2, HG1, HR1, HX, HY, HB⟩ := hcut
            go_wp2_with (first
              | (go_at_call 11; refine Calls.mono (HA.out _ HB.out) ?_; (rintro e w6 ⟨rfl, hb6⟩; have HR16 := Lib.hid (HR1'.out _ _ _ HR1.out hb6); have HR26 := Lib.hid (HR2'.out _ _ _ HR2.out hb6); have HX6 := Lib.hid (keep_blk hb6 HX.out); have HY6 := Lib.hid (keep_blk hb6 HY.out); have HG16 := Lib.hid (keep_blk hb6 HG1.out); have HG26 := Lib.hid (keep_blk hb6 HG2.out); have HB6 := Lib.hid (HB.out.trans (hb6.mono HB.out.size)); clear hb6; obtain ⟨x0, x1, x2, x3⟩ := cells4 HX6.out; obtain ⟨p0, p1, p2, p3⟩ := cells4 HG16.out))
              | ((fail_if_success (have := HB7)); go_at_call 16; refine Calls.mono (HQ1'.out A1 c1 _ HB6.out HR16.out) ?_; (rintro e w7 ⟨rfl, hb7⟩; have HR27 := Lib.hid (HR2'.out _ _ _ HR26.out hb7); have HY7 := Lib.hid (keep_blk hb7 HY6.out); have HG27 := Lib.hid (keep_blk hb7 HG26.out); have HB7 := Lib.hid (HB6.out.trans (hb7.mono HB6.out.size)); clear hb7 x0 x1 x2 x3 p0 p1 p2 p3; obtain ⟨x0, x1, x2, x3⟩ := cells4 HY7.out; obtain ⟨p0, p1, p2, p3⟩ := cells4 HG27.out))
              | (go_at_call 16; refine Calls.mono (HQ2'.out A2 c2 _ HB7.out HR27.out) ?_; (rintro e w8 ⟨rfl, hb8⟩; have HB8 := Lib.hid (HB7.out.trans (hb8.mono HB7.out.size)); clear hb8 x0 x1 x2 x3 p0 p1 p2 p3)))
            go_ret
            exact ⟨rfl, HB8.out⟩
      · clear HD1' HD2' HL1 HL2
        cases ox <;> cases oy <;> (first | (exact absurd ⟨rfl, rfl⟩ hoo) | skip)
        all_goals
          go_wp2_with (first
          | ((fail_if_success (have := HX1)); go_at_call 10; refine Calls.mono (HS1.out _ HB0.out) ?_; (rintro e w1 ⟨rfl, hb1⟩; have HB1 := Lib.hid (HB0.out.trans (hb1.mono HB0.out.size)); have HX1 := Lib.hid (keep_blk hb1 HN.out.1); have HY1 := Lib.hid (keep_blk hb1 HN.out.2.1); clear hb1 x0 x1 x2 x3 y0 y1 y2 y3; obtain ⟨x0, x1, x2, x3⟩ := cells4 HX1.out; obtain ⟨y0, y1, y2, y3⟩ := cells4 HY1.out))
          | ((fail_if_success (have := HX2)); go_at_call 10; refine Calls.mono (HS2.out _ HB1.out) ?_; (rintro e w2 ⟨rfl, hb2⟩; have HB2 := Lib.hid (HB1.out.trans (hb2.mono HB1.out.size)); have HX2 := Lib.hid (keep_blk hb2 HX1.out); have HY2 := Lib.hid (keep_blk hb2 HY1.out); clear hb2 x0 x1 x2 x3 y0 y1 y2 y3; obtain ⟨x0, x1, x2, x3⟩ := cells4 HX2.out; obtain ⟨y0, y1, y2, y3⟩ := cells4 HY2.out))
          | ((fail_if_success (have := HX3)); go_at_call 12; go_loud (refine Calls.mono (HE1.out (by first | rfl | trivial) _ HB2.out) ?_); (rintro e w3 ⟨rfl, hb3⟩; have HB3 := Lib.hid (HB2.out.trans (hb3.mono HB2.out.size)); have HX3 := Lib.hid (keep_blk hb3 HX2.out); have HY3 := Lib.hid (keep_blk hb3 HY2.out); clear hb3 x0 x1 x2 x3 y0 y1 y2 y3; obtain ⟨x0, x1, x2, x3⟩ := cells4 HX3.out; obtain ⟨y0, y1, y2, y3⟩ := cells4 HY3.out))
          | (go_at_call 12; refine Calls.mono (HE2.out (by first | rfl | trivial) _ HB3.out) ?_; (rintro e w4 ⟨rfl, hb4⟩; have HB4 := Lib.hid (HB3.out.trans (hb4.mono HB3.out.size)); have HX4 := Lib.hid (keep_blk hb4 HX3.out); have HY4 := Lib.hid (keep_blk hb4 HY3.out); clear hb4 x0 x1 x2 x3 y0 y1 y2 y3; obtain ⟨x0, x1, x2, x3⟩ := cells4 HX4.out; obtain ⟨y0, y1, y2, y3⟩ := cells4 HY4.out))
            | (go_at_call 11; refine Calls.mono (HA.out _ HB4.out) ?_; (rintro e w5 ⟨rfl, hb5⟩; have HB5 := Lib.hid (HB4.out.trans (hb5.mono HB4.out.size)); clear hb5)))
          go_ret
          exact ⟨rfl, HB5.out⟩
end Go.Proofs.YteghfinngilfgaaDoor.T
