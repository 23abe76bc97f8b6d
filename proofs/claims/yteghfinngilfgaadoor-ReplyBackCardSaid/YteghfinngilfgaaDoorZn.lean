import Derived.Deep.DeepCutAuto
import Derived.Laws.OwnMore
import Derived.OwnWalk
import Derived.Lib.AppendStr
import Derived.Lib.SliceRun
import Derived.Lib.SmallJoins
import Derived.IntWalk
import Derived.Lib.ItoaLen
import Derived.WalkMore
import Derived.Lib.AtoiAllCases
import Derived.Lib.OthersKept
import Derived.Laws.Runes
import Derived.Deep.LoopGhost
import Derived.Deep.RegionLaw
import Derived.Deep.AppendLies
import Derived.Test.YteghfinngilfgaaDoorProg
import Derived.Test.YteghfinngilfgaaDoorMem
import Derived.Test.YteghfinngilfgaaDoorZm
import Derived.Test.YteghfinngilfgaaDoorZh
import Derived.WalkKit
import Derived.Outline
import Derived.WalkLawsBesides
import Derived.Deep.QuietTactic
import Derived.BigQuiet
import Derived.Lib.Hide
import Derived.Handy
import Derived.Deep.RegionHeld3
import Derived.Deep.DrawnRows
import Derived.KernelRfl
import Derived.Great.Walk
import Derived.Test.YteghfinngilfgaaDoorOwn
namespace Go.Proofs.YteghfinngilfgaaDoor.T
open Go Go.RowKit Go.Sort Mem Own
set_option maxRecDepth 100000
set_option maxHeartbeats 1000000
set_option linter.unusedVariables false
set_option linter.unusedSimpArgs false

def numT (z : Int) : T := .mk 3 z ⟨#[]⟩ []
def longT (z : Int) (n : Nat) : T := .mk 6 0 ⟨#[]⟩ (List.replicate n (numT z))
theorem num_fit (z : Int) : Fit (numT z) := .mk (by decide) (by simp)
theorem num_wf {z : Int} (h0 : -9223372036854775808 ≤ z) (h1 : z ≤ 9223372036854775807) : Wf (numT z) := .mk h0 h1 (by decide) (by decide) (by simp)
theorem long_fit (z : Int) {n : Nat} (hn : n ≤ 1100) : Fit (longT z n) := .mk (by simp; omega) (fun y hy => by rw [List.eq_of_mem_replicate hy]; exact num_fit z)
theorem long_wf {z : Int} {n : Nat} (h0 : -9223372036854775808 ≤ z) (h1 : z ≤ 9223372036854775807) (hn : n ≤ 1100) : Wf (longT z n) := .mk (by decide) (by decide) (by decide) (by simp; omega) (fun y hy => by rw [List.eq_of_mem_replicate hy]; exact num_wf h0 h1)
theorem wts_rep (d : Nat) (y : T) : ∀ n, wts d (List.replicate n y) = n * wt d y
  | 0 => by simp [wts]
  | n + 1 => by rw [List.replicate_succ]; simp only [wts]; rw [wts_rep d y n, Nat.add_mul]; omega
theorem long_wt (z : Int) {n : Nat} (hn : n ≤ 1100) : wt 0 (longT z n) ≤ 100000000000000 := by
  rw [wt_mk, if_neg (by omega)]
  show 64 + (⟨#[]⟩ : ByteArray).size + wts 1 (List.replicate n (numT z)) ≤ _
  rw [wts_rep]
  have h1 : wt 1 (numT z) = 64 := by rw [wt_mk, if_neg (by omega)]; rfl
  have h2 : (⟨#[]⟩ : ByteArray).size = 0 := rfl
  rw [h1, h2]
  omega
theorem num_enc (d : Nat) (z : Int) : enc d (numT z) = some (58 :: (Lib.itoa z ++ crlf)) := enc_3 (x := numT z) (by simp [bareB, numT, T.k, T.z, T.t, T.l, ByteArray.toList_eq]) rfl
theorem encs_rep (d : Nat) (z : Int) : ∀ n, ∃ r, encs d (List.replicate n (numT z)) = some r
  | 0 => ⟨[], by simp [encs]⟩
  | n + 1 => by
    obtain ⟨r, hr⟩ := encs_rep d z n
    rw [List.replicate_succ]
    exact ⟨_, by simp only [encs]; rw [num_enc, hr]; rfl⟩
theorem long_o (z : Int) (n : Nat) : encO (longT z n) = decide (n ≤ 1024) := by
  unfold encO
  rw [enc_6 (x := longT z n) (by simp [bareB, longT, T.k, T.z, T.t, T.l, ByteArray.toList_eq]) rfl]
  have hlen : (longT z n).l.length = n := by simp [longT, T.l]
  by_cases h : n ≤ 1024
  · obtain ⟨r, hr⟩ := encs_rep 1 z n
    rw [if_pos ⟨by rw [hlen]; exact h, by omega⟩]
    have h2 : encs (0 + 1) (longT z n).l = some r := hr
    rw [h2]
    simp [h]
  · rw [if_neg (by rw [hlen]; omega)]
    simp [h]
set_option maxHeartbeats 4000000 in
/-- ReplyLong -/
theorem long_law (n z : Int) (w : World) (h0 : -9223372036854775808 ≤ z) (h1 : z ≤ 9223372036854775807) (hT : Tab w) :
    Calls Tryd.prog 4 #[.int .i64 n, .int .i64 z] w (Yes w) := by
  have HA := Lib.hid (fun (wx : World) (hb : Below w.heap.size w wx) => alive_is wx (hT.keep hb))
  by_cases hn0 : n < 0
  · go_enter Tryd.func4, Tryd.ntmps4
    go_wp2_with (go_at_call 11; refine Calls.mono (HA.out _ (Below.refl _ _)) ?_; (rintro e w1 ⟨rfl, hb1⟩; have HB1 := Lib.hid hb1; clear hb1))
    go_ret
    exact ⟨rfl, HB1.out⟩
  by_cases hn1 : 1100 < n
  · have hn0b : decide (n < 0) = false := by simpa using hn0
    go_enter Tryd.func4, Tryd.ntmps4
    go_wp2_with (go_at_call 11; refine Calls.mono (HA.out _ (Below.refl _ _)) ?_; (rintro e w1 ⟨rfl, hb1⟩; have HB1 := Lib.hid hb1; clear hb1))
    go_ret
    exact ⟨rfl, HB1.out⟩
  obtain ⟨N, rfl⟩ : ∃ N : Nat, n = (N : Int) := ⟨n.toNat, by omega⟩
  have hN : N ≤ 1100 := by omega
  have hn1b : decide ((1100 : Int) < (N : Int)) = false := by simp; omega
  have hn0b : decide ((N : Int) < 0) = false := by simp
  have HE := Lib.hid (fun (C : Option Addr) (k : Nat) (wx : World) (hb : Below w.heap.size w wx) (hr : RdT wx C (longT z N)) => (show Calls Tryd.prog 12 #[tV 6 0 ⟨#[]⟩ C N k] wx (fun e w' => e = .returned (.tuple #[.string (encS (longT z N)), .bool (decide (N ≤ 1024))]) ∧ Below wx.heap.size wx w') by
    have := encode_is (longT z N) C k wx hr (long_wf h0 h1 hN) (long_wt z hN) (hT.keep hb)
    rw [long_o] at this
    simpa [longT, T.k, T.z, T.t, T.l] using this))
  have HD := Lib.hid (fun (wx : World) (hb : Below w.heap.size w wx) => (show Calls Tryd.prog 14 #[.string (encS (longT z N))] wx (fun e w' => ∃ (k zz : Int) (t : ByteArray) (A : Option Addr) (m c : Nat) (a err : Int), e = .returned (.tuple #[tV k zz t A m c, .int .i64 a, .int .i64 err]) ∧ (N ≤ 1024 → k = 6 ∧ zz = 0 ∧ t = ⟨#[]⟩ ∧ m = N ∧ a = ((encS (longT z N)).size : Int) ∧ err = 0 ∧ RdT w' A (longT z N)) ∧ Below wx.heap.size wx w') by
    rcases enc_parts (longT z N) with ⟨k1, k2⟩ | ⟨k1, k2⟩
    · have hs : encS (longT z N) = ⟨#[]⟩ := by unfold encS; rw [k2]; rfl
      rw [long_o] at k1
      have hN2 : ¬ N ≤ 1024 := by simpa using k1
      rw [hs]
      exact (decode_short _ wx fun wy _ => read_none 0 wy).mono fun e w' h => ⟨0, 0, _, none, 0, 0, 0, 40, h.1, fun h => absurd h hN2, h.2⟩
    · refine (decode_is (longT z N) _ [] (encS (longT z N)) wx k2 (long_wf h0 h1 hN) (long_wt z hN) (by simp) ?_ (hT.keep hb)).mono fun e w' h => ?_
      · have := enc_wt (long_wf h0 h1 hN) k2
        have h3 := long_wt z hN
        rw [toList_len] at this
        omega
      · obtain ⟨A, c, e1, e2, e3⟩ := h
        rw [toList_len] at e1
        exact ⟨6, 0, ⟨#[]⟩, A, _, c, _, 0, e1, fun _ => ⟨rfl, rfl, rfl, by simp [longT, T.l], rfl, rfl, e2.rd⟩, e3⟩))
  have HS := Lib.hid (fun (A C : Option Addr) (c k : Nat) (wx : World) (hr : RdT wx A (longT z N)) (hr' : RdT wx C (longT z N)) => (show Calls Tryd.prog 15 #[tV 6 0 ⟨#[]⟩ A N c, tV 6 0 ⟨#[]⟩ C N k] wx (Yes wx) by
    have := psame_is (x := longT z N) (y := longT z N) (c := c) (d := k) hr hr' (long_fit z hN)
    rw [sameB_refl] at this
    simpa [longT, T.k, T.z, T.t, T.l] using this))
  generalize encS (longT z N) = S at HE HD
  clear hT hn0 hn1
  go_enter Tryd.func4, Tryd.ntmps4
  go_upto_region 3 with fail
  go_cut [0, 1, 5] (fun s0 s1 s5 wx => s0 = .int .i64 (N : Int) ∧ s1 = .int .i64 z ∧ s5 = .pointer (some ⟨w.heap.size, 0, none⟩) ∧ RowKit.Hid (wx.heap[w.heap.size]? = some (.cells #[.int .i64 6, .int .i64 0, .string ⟨#[]⟩, .slice none 0 0] 24 (0, 0))) ∧ RowKit.Hid (Below w.heap.size w wx) ∧ RowKit.Hid (w.heap.size + 1 ≤ wx.heap.size))
  case first =>
    go_wp2_with fail
    go_meet
    exact ⟨rfl, rfl, rfl, Lib.hid (heap_alloc_new w _), Lib.hid ((Below.refl _ _).alloc (Nat.le_refl _) _), Lib.hid (by rw [alloc_sz]; exact Nat.le_refl _)⟩
  case rest =>
    obtain ⟨rfl, rfl, rfl, HR0, HB0, HZ0⟩ := hcut
    have hz0 := HZ0.out
    go_wp2_with fail
    go_loopw [20] (fun s20 wx => ∃ (v : Value) (i : Nat), i ≤ N ∧ s20 = .int .i64 i ∧ RowKit.Hid (wx.heap[w.heap.size]? = some (.cells #[.int .i64 6, .int .i64 0, .string ⟨#[]⟩, v] 24 (0, 0))) ∧ RowKit.Hid (LSt (w.heap.size + 1) (List.replicate N (numT z)) i v wx) ∧ RowKit.Hid (Below w.heap.size w wx) ∧ RowKit.Hid (w.heap.size + 1 ≤ wx.heap.size)) (fun s20 _ => N - (intOf s20).toNat)
    case atStart => exact ⟨_, 0, Nat.zero_le _, rfl, HR0, Lib.hid (LSt.nil _ _ _), HB0, HZ0⟩
    case round =>
      obtain ⟨v, i, hi, rfl, HR1, HL, HB, HZ⟩ := hrel
      have hzr := HB.out.size
      have hz2 := HZ.out
      by_cases hlt : i < N
      · have HTX := Lib.hid (show (List.replicate N (numT z))[i]? = some (.mk 3 z ⟨#[]⟩ []) by rw [List.getElem?_replicate, if_pos hlt]; rfl)
        have hln := Lib.hid (show (List.replicate N (numT z)).length ≤ 1000000000000 by simp; omega)
        obtain ⟨A', c', rfl⟩ := HL.out.form
        obtain ⟨x0, x1, x2, x3⟩ := cells4 HR1.out
        obtain ⟨f0, f1, f2, f3⟩ := frees4 HR1.out
        go_wp2_with (at_builtin; refine Own.wpList_append_ex rfl (.tmp 23) (.tmp 26) 22 22 rfl (.slice A' i c') (.slice (some ⟨_, 0, none⟩) 1 1) rfl rfl _ (LSt.push (x := .mk 3 z ⟨#[]⟩ []) (c := 0) HL.out HTX.out hln.out hz2 (w1 := wr) (A := none) (fun _ _ => .inl rfl) (Below.refl _ _) ((Below.refl _ _).alloc (Nat.le_refl _) _) (heap_alloc_new wr _)) ?_; (rintro v5 w5 ⟨hL5, hK5, hG5, hV5⟩; obtain ⟨C5, k5, rfl⟩ := hL5.form; have HL5 := Lib.hid hL5; have HR5 := Lib.hid (hK5 _ _ (Nat.lt_succ_self _) (blk_new HR1.out _)); have HB5 := Lib.hid ((HB.out.alloc (by omega) _).grown hG5 (by rw [alloc_sz]; omega) (fun k hk => by have := hV5 k hk; omega)); clear hL5 hK5 hG5 hV5 x0 x1 x2 x3 f0 f1 f2 f3; obtain ⟨x0, x1, x2, x3⟩ := cells4 HR5.out; obtain ⟨f0, f1, f2, f3⟩ := frees4 HR5.out))
        refine ⟨⟨_, i + 1, by omega, by go_num, Lib.hid ?_, Lib.hid (HL5.out.set (Nat.lt_succ_self _)), Lib.hid (HB5.out.setCell (Nat.le_refl _) _), Lib.hid (by rw [set_sz]; have := lt_of_blk HR5.out; omega)⟩, by simp [intOf]; omega⟩
        have := blk_set (i := 3) HR5.out (.slice C5 (i + 1) k5); simpa using this
      · have hiN : i = N := by omega
        subst hiN
        obtain ⟨C, k, rfl, hrd⟩ := (show LSt (w.heap.size + 1) (List.replicate i (numT z)) (List.replicate i (numT z)).length v wr by rw [List.length_replicate]; exact HL.out).out
        have HRD := Lib.hid (show RdT wr C (longT z i) from hrd.rd)
        clear hrd HL
        rw [List.length_replicate] at HR1
        obtain ⟨x0, x1, x2, x3⟩ := cells4 HR1.out
        by_cases hk : i ≤ 1024
        · have hkb : decide ((i : Int) ≤ 1024) = true := by simp; omega
          have HE1 := Lib.hid (fun (C : Option Addr) (k : Nat) (wx : World) (hb : Below w.heap.size w wx) (hr : RdT wx C (longT z i)) => (show Calls Tryd.prog 12 #[tV 6 0 ⟨#[]⟩ C i k] wx (fun e w' => e = .returned (.tuple #[.string S, .bool true]) ∧ Below wx.heap.size wx w') by
            have := HE.out C k wx hb hr
            rw [decide_eq_true hk] at this
            exact this))
          have HD1 := Lib.hid (fun (wx : World) (hb : Below w.heap.size w wx) => (HD.out wx hb).mono (R' := fun e w' => ∃ A c, e = .returned (.tuple #[tV 6 0 ⟨#[]⟩ A i c, .int .i64 (S.size : Int), .int .i64 0]) ∧ RdT w' A (longT z i) ∧ Below wx.heap.size wx w') (fun e w' h => by
            obtain ⟨k', zz, t, A, m, c, a, err, e1, e2, e3⟩ := h
            obtain ⟨rfl, rfl, rfl, rfl, rfl, rfl, e4⟩ := e2 hk
            exact ⟨A, c, e1, e4, e3⟩))
          clear HE HD
          go_wp2_with (first
            | (go_at_call 12; refine Calls.mono (HE1.out C k _ HB.out HRD.out) ?_; (rintro e w2 ⟨rfl, hb2⟩; have HB2 := Lib.hid (HB.out.trans (hb2.mono HB.out.size)); have HX2 := Lib.hid (keep_blk hb2 HR1.out); have HRD2 := Lib.hid (HRD.out.below hb2); clear hb2 x0 x1 x2 x3))
            | (go_at_call 14; refine Calls.mono (HD1.out _ HB2.out) ?_; (rintro e w3 ⟨A3, c3, rfl, hr3, hb3⟩; have HB3 := Lib.hid (HB2.out.trans (hb3.mono HB2.out.size)); have HX3 := Lib.hid (blk_new (keep_blk hb3 HX2.out) (.cells #[.int .i64 6, .int .i64 0, .string ⟨#[]⟩, .slice A3 i c3] 24)); have HY3 := Lib.hid (heap_alloc_new w3 (.cells #[.int .i64 6, .int .i64 0, .string ⟨#[]⟩, .slice A3 i c3] 24)); have HRD3 := Lib.hid (HRD2.out.below hb3); have HRE3 := Lib.hid hr3; clear hb3 hr3))
            | (go_at_call 11; refine Calls.mono (HA.out _ (HB3.out.alloc HB3.out.size _)) ?_; (rintro e w4 ⟨rfl, hb4⟩; have HB4 := Lib.hid ((HB3.out.alloc HB3.out.size _).trans (hb4.mono (HB3.out.alloc HB3.out.size _).size)); have HX4 := Lib.hid (keep_blk hb4 HX3.out); have HY4 := Lib.hid (keep_blk hb4 HY3.out); have HRD4 := Lib.hid ((HRD3.out.below ((Below.refl _ _).alloc (Nat.le_refl _) _)).below hb4); have HRE4 := Lib.hid ((HRE3.out.below ((Below.refl _ _).alloc (Nat.le_refl _) _)).below hb4); clear hb4; obtain ⟨x0, x1, x2, x3⟩ := cells4 HX4.out; obtain ⟨y0, y1, y2, y3⟩ := cells4 HY4.out))
            | (go_at_call 15; refine Calls.mono (HS.out A3 C c3 k _ HRE4.out HRD4.out) ?_; (rintro e w5 ⟨rfl, hb5⟩; have HB5 := Lib.hid (HB4.out.trans (hb5.mono HB4.out.size)); clear hb5)))
          go_ret
          exact ⟨rfl, HB5.out⟩
        · have hkb : decide ((i : Int) ≤ 1024) = false := by simp; omega
          have HE1 := Lib.hid (fun (C : Option Addr) (k : Nat) (wx : World) (hb : Below w.heap.size w wx) (hr : RdT wx C (longT z i)) => (show Calls Tryd.prog 12 #[tV 6 0 ⟨#[]⟩ C i k] wx (fun e w' => e = .returned (.tuple #[.string S, .bool false]) ∧ Below wx.heap.size wx w') by
            have := HE.out C k wx hb hr
            rw [decide_eq_false hk] at this
            exact this))
          have HD1 := Lib.hid (fun (wx : World) (hb : Below w.heap.size w wx) => (HD.out wx hb).mono (R' := fun e w' => ∃ (k zz : Int) (t : ByteArray) (A : Option Addr) (m c : Nat) (a err : Int), e = .returned (.tuple #[tV k zz t A m c, .int .i64 a, .int .i64 err]) ∧ Below wx.heap.size wx w') (fun e w' h => by
            obtain ⟨k', zz, t, A, m, c, a, err, e1, e2, e3⟩ := h
            exact ⟨k', zz, t, A, m, c, a, err, e1, e3⟩))
          clear HE HD
          go_wp2_with (first
            | (go_at_call 12; refine Calls.mono (HE1.out C k _ HB.out HRD.out) ?_; (rintro e w2 ⟨rfl, hb2⟩; have HB2 := Lib.hid (HB.out.trans (hb2.mono HB.out.size)); clear hb2 x0 x1 x2 x3))
            | (go_at_call 14; refine Calls.mono (HD1.out _ HB2.out) ?_; (rintro e w3 ⟨q1, q2, q3, q4, q5, q6, q7, q8, rfl, hb3⟩; have HB3 := Lib.hid (HB2.out.trans (hb3.mono HB2.out.size)); clear hb3))
            | (go_at_call 11; refine Calls.mono (HA.out _ (HB3.out.alloc HB3.out.size _)) ?_; (rintro e w4 ⟨rfl, hb4⟩; have HB4 := Lib.hid ((HB3.out.alloc HB3.out.size _).trans (hb4.mono (HB3.out.alloc HB3.out.size _).size)); clear hb4)))
          go_ret
          exact ⟨rfl, HB4.out⟩
end Go.Proofs.YteghfinngilfgaaDoor.T
