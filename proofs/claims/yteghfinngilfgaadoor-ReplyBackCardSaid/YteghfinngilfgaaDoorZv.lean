import Derived.Deep.DeepCutAuto
import Derived.Laws.OwnMore
import Derived.OwnWalk
import Derived.Lib.AppendStr
import Derived.Lib.SliceRun
import Derived.Lib.SmallJoins
import Derived.IntWalk
import Derived.Lib.ItoaLen
import Derived.WalkMore
import Derived.Lib.AtoiAllCases
import Derived.Lib.OthersKept
import Derived.Laws.Runes
import Derived.Deep.LoopGhost
import Derived.Deep.RegionLaw
import Derived.Deep.AppendLies
import Derived.Test.YteghfinngilfgaaDoorProg
import Derived.Test.YteghfinngilfgaaDoorMem
import Derived.Test.YteghfinngilfgaaDoorZu
import Derived.Test.YteghfinngilfgaaDoorZh
import Derived.WalkKit
import Derived.Outline
import Derived.WalkLawsBesides
import Derived.Deep.QuietTactic
import Derived.BigQuiet
import Derived.Lib.Hide
import Derived.Handy
import Derived.Deep.RegionHeld3
import Derived.Deep.DrawnRows
import Derived.KernelRfl
import Derived.Great.Walk
import Derived.Test.YteghfinngilfgaaDoorOwn
namespace Go.Proofs.YteghfinngilfgaaDoor.T
open Go Go.RowKit Go.Sort Mem Own
set_option maxRecDepth 100000
set_option maxHeartbeats 1000000
set_option linter.unusedVariables false
set_option linter.unusedSimpArgs false

theorem ix_other {c : UInt8} (h : ¬ c = 43 ∧ ¬ c = 45 ∧ ¬ c = 58 ∧ ¬ c = 36 ∧ ¬ c = 42) : Lib.indexByte [43, 45, 58, 36, 42] c = -1 := ix_none (by
  intro b hb
  simp only [List.mem_cons, List.not_mem_nil, or_false] at hb
  rcases hb with rfl | rfl | rfl | rfl | rfl
  · exact fun e => h.1 e.symm
  · exact fun e => h.2.1 e.symm
  · exact fun e => h.2.2.1 e.symm
  · exact fun e => h.2.2.2.1 e.symm
  · exact fun e => h.2.2.2.2 e.symm)
/-- A text that begins with no sign. -/
theorem read_any_no (c : UInt8) (rest : List UInt8) (s : ByteArray) (d : Int) (w : World) (hs : s.toList = c :: rest) (h : ¬ c = 43 ∧ ¬ c = 45 ∧ ¬ c = 58 ∧ ¬ c = 36 ∧ ¬ c = 42) :
    Calls Tryd.prog 25 #[.string s, .int .i64 d] w (RAnyP s w) := by
  have hp0 : 0 < s.size := by rw [← toList_len, hs]; simp
  have hg : s[0]'hp0 = c := by
    have := ba_get hp0
    rw [hs] at this; simpa using this.symm
  have HI := Lib.hid (fun (wx : World) => (Tryd.strings_IndexByte ⟨#[43, 45, 58, 36, 42]⟩ (c.toNat : Int) wx).mono (R' := fun e w' => e = .returned (.int .i64 (-1)) ∧ wx = w') (fun e w' h' => ⟨by rw [h'.1]; show Ending.returned (.int .i64 (Lib.indexByte [43, 45, 58, 36, 42] ((c.toNat : Int).toNat.toUInt8))) = _; rw [Int.toNat_natCast, show c.toNat.toUInt8 = c by simp, ix_other h], h'.2.symm⟩))
  have hne : s.toList.isEmpty = false := by rw [hs]; rfl
  have HN := Lib.hid (new1 w #[.int .i64 0, .int .i64 0, .string ⟨#[]⟩, .slice none 0 0] 24)
  clear hs h
  go_enter Tryd.func25, Tryd.ntmps25
  go_upto_region 1 with fail
  obtain ⟨w1, hw1⟩ : ∃ w1, w1 = w.alloc (.cells #[.int .i64 0, .int .i64 0, .string ⟨#[]⟩, .slice none 0 0] 24) := ⟨_, rfl⟩
  rw [← hw1] at HN ⊢
  clear hw1
  obtain ⟨x0, x1, x2, x3⟩ := cells4 HN.out.1
  obtain ⟨f0, f1, f2, f3⟩ := frees4 HN.out.1
  go_wp2_with (go_at_call 33; refine Calls.mono (HI.out _) ?_; rintro e w2 ⟨rfl, rfl⟩)
  refine ret_reply rfl rfl rfl rfl (sets4 _ _ _ _ HN.out.1) ?_
  exact ⟨0, 0, _, none, 0, 0, 0, 41, rfl, Nat.zero_le _, below_sets4 HN.out.2 (Nat.le_refl _)⟩
/-- reply.read of any text. -/
theorem read_any : ∀ (m d : Nat) (s : ByteArray) (w : World), d + m = 4 → s.size ≤ 1000000000000000000 → Tab w → ErrV w → Calls Tryd.prog 25 #[.string s, .int .i64 (d : Int)] w (RAnyP s w) := by
  intro m
  induction m with
  | zero =>
    intro d s w hd hs hT hE
    cases hl : s.toList with
    | nil =>
      have : s = ⟨#[]⟩ := ba_list (by rw [hl]; decide +kernel)
      subst this
      exact (read_none _ w).mono fun e w' h => ⟨0, 0, _, none, 0, 0, 0, 40, h.1, Nat.zero_le _, h.2⟩
    | cons c rest =>
      by_cases c1 : c = 43
      · subst c1; exact read_any_43 rest s d w hl (by omega) hs hT hE
      by_cases c2 : c = 45
      · subst c2; exact read_any_45 rest s d w hl (by omega) hs hT hE
      by_cases c3 : c = 58
      · subst c3; exact read_any_58 rest s d w hl (by omega) hs hT hE
      by_cases c4 : c = 36
      · subst c4; exact read_any_36 rest s d w hl (by omega) hs hT hE
      by_cases c5 : c = 42
      · subst c5; exact read_any_42 rest s d w hl (by omega) hs hT hE fun u wx h => by omega
      · exact read_any_no c rest s d w hl ⟨c1, c2, c3, c4, c5⟩
  | succ m ih =>
    intro d s w hd hs hT hE
    cases hl : s.toList with
    | nil =>
      have : s = ⟨#[]⟩ := ba_list (by rw [hl]; decide +kernel)
      subst this
      exact (read_none _ w).mono fun e w' h => ⟨0, 0, _, none, 0, 0, 0, 40, h.1, Nat.zero_le _, h.2⟩
    | cons c rest =>
      by_cases c1 : c = 43
      · subst c1; exact read_any_43 rest s d w hl (by omega) hs hT hE
      by_cases c2 : c = 45
      · subst c2; exact read_any_45 rest s d w hl (by omega) hs hT hE
      by_cases c3 : c = 58
      · subst c3; exact read_any_58 rest s d w hl (by omega) hs hT hE
      by_cases c4 : c = 36
      · subst c4; exact read_any_36 rest s d w hl (by omega) hs hT hE
      by_cases c5 : c = 42
      · subst c5; exact read_any_42 rest s d w hl (by omega) hs hT hE fun u wx h h1 h2 h3 => ih (d + 1) u wx (by omega) h1 h2 h3
      · exact read_any_no c rest s d w hl ⟨c1, c2, c3, c4, c5⟩
/-- reply.Decode of any text. -/
theorem decode_any (s : ByteArray) (w : World) (hs : s.size ≤ 1000000000000000000) (hT : Tab w) (hE : ErrV w) :
    Calls Tryd.prog 14 #[.string s] w fun e w' => ∃ (k z : Int) (t : ByteArray) (A : Option Addr) (m c : Nat) (a err : Int), e = .returned (.tuple #[tV k z t A m c, .int .i64 a, .int .i64 err]) ∧ Below w.heap.size w w' := by
  have HR := Lib.hid (fun (wx : World) (hb : Below w.heap.size w wx) => read_any 4 0 s wx rfl hs (hT.keep hb) (hE.keep hb))
  have HN := Lib.hid (new1 w #[.int .i64 0, .int .i64 0, .string ⟨#[]⟩, .slice none 0 0] 24)
  clear hT hE
  go_enter Tryd.func14, Tryd.ntmps14
  go_upto_region 1 with fail
  obtain ⟨w1, hw1⟩ : ∃ w1, w1 = w.alloc (.cells #[.int .i64 0, .int .i64 0, .string ⟨#[]⟩, .slice none 0 0] 24) := ⟨_, rfl⟩
  rw [← hw1] at HN ⊢
  clear hw1
  go_wp2_with (go_at_call 25; refine Calls.mono (HR.out _ HN.out.2) ?_; (rintro e w2 ⟨k, z, t, A, m, c, a, err, rfl, -, hb2⟩; have HB2 := Lib.hid (HN.out.2.trans (hb2.mono HN.out.2.size)); have HX2 := Lib.hid (keep_blk hb2 HN.out.1); clear hb2; obtain ⟨x0, x1, x2, x3⟩ := cells4 HX2.out; obtain ⟨f0, f1, f2, f3⟩ := frees4 HX2.out))
  refine ret_reply rfl rfl rfl rfl (sets4 _ _ _ _ HX2.out) ?_
  exact ⟨k, z, t, A, m, c, a, err, rfl, below_sets4 HB2.out (Nat.le_refl _)⟩
set_option maxHeartbeats 4000000 in
/-- ReplyBack -/
theorem back_law (x : T) (A : Option Addr) (c : Nat) (more : ByteArray) (w : World) (hr : RdT w A x) (ho : Opd x) (hmz : more.size ≤ 140737488355328) (hT : Tab w) (hE : ErrV w) :
    Calls Tryd.prog 5 #[tV x.k x.z x.t A x.l.length c, .string more] w (Yes w) := by
  have HS1 := Lib.hid (fun (wx : World) (hb : Below w.heap.size w wx) => small0 x A c wx (hr.below hb))
  have HA := Lib.hid (fun (wx : World) (hb : Below w.heap.size w wx) => alive_is wx (hT.keep hb))
  have HN := Lib.hid (new1 w #[.int .i64 x.k, .int .i64 x.z, .string x.t, .slice A x.l.length c] 24)
  have HE1 := Lib.hid (fun (h : smallB 0 x = true) (wx : World) (hb : Below w.heap.size w wx) => encode_is x A c wx (hr.below hb) (enc_facts h ho).1 (enc_facts h ho).2 (hT.keep hb))
  have HSZ := Lib.hid (fun (h : smallB 0 x = true) => (show (encS x).size ≤ 100000000000000 by
    rcases enc_parts x with ⟨-, h2⟩ | ⟨-, h2⟩
    · unfold encS; rw [h2]; show (#[] : Array UInt8).size ≤ _; simp
    · have := enc_wt (enc_facts h ho).1 h2
      rw [toList_len] at this
      exact Nat.le_trans this (enc_facts h ho).2))
  have HD := Lib.hid (fun (h : smallB 0 x = true) (h2 : encO x = true) (wx : World) (hb : Below w.heap.size w wx) => (show Calls Tryd.prog 14 #[.string (encS x ++ more)] wx (fun e w' => ∃ A' c', e = .returned (.tuple #[tV x.k x.z x.t A' x.l.length c', .int .i64 ((encS x).size : Int), .int .i64 0]) ∧ RdT w' A' x ∧ Below wx.heap.size wx w') by
    rcases enc_parts x with ⟨h1, -⟩ | ⟨-, h3⟩
    · rw [h1] at h2; cases h2
    · refine (decode_is x _ more.toList (encS x ++ more) wx h3 (enc_facts h ho).1 (enc_facts h ho).2 (toList_app _ _) (by rw [ByteArray.size_append]; have := HSZ.out h; omega) (hT.keep hb)).mono fun e w' hR => ?_
      obtain ⟨A', c', k1, k2, k3⟩ := hR
      rw [toList_len] at k1
      exact ⟨A', c', k1, k2.rd, k3⟩))
  have HD2 := Lib.hid (fun (h : smallB 0 x = true) (wx : World) (hb : Below w.heap.size w wx) => decode_any (encS x ++ more) wx (by rw [ByteArray.size_append]; have := HSZ.out h; omega) (hT.keep hb) (hE.keep hb))
  have HQ1 := Lib.hid (fun (A' : Option Addr) (c' : Nat) (wx : World) (hb : Below w.heap.size w wx) (h : RdT wx A' x) => (show Calls Tryd.prog 16 #[tV x.k x.z x.t A' x.l.length c', tV x.k x.z x.t A x.l.length c] wx (Yes wx) by
    have := rsame_all x.sz x x A' A c' c wx (Nat.le_refl _) h (hr.below hb) ho.fit
    rw [sameB_refl] at this
    exact this))
  have HR1 := Lib.hid (fun (wx w' : World) (A' : Option Addr) (h : RdT wx A' x) (hb : Below wx.heap.size wx w') => h.below hb)
  clear hr ho hT hE
  generalize encS x = S at HE1 HSZ HD HD2
  generalize encO x = ox at HE1 HD
  generalize smallB 0 x = sx at HS1 HE1 HSZ HD HD2
  obtain ⟨R1, hR1⟩ : ∃ R1 : World → Option Addr → Prop, R1 = fun wx A' => RdT wx A' x := ⟨_, rfl⟩
  have HD' := Lib.hid (show ∀ (h : sx = true) (h2 : ox = true) (wx : World) (hb : Below w.heap.size w wx), Calls Tryd.prog 14 #[.string (S ++ more)] wx (fun e w' => ∃ A' c', e = .returned (.tuple #[tV x.k x.z x.t A' x.l.length c', .int .i64 (S.size : Int), .int .i64 0]) ∧ R1 w' A' ∧ Below wx.heap.size wx w') by rw [hR1]; exact HD.out)
  have HQ1' := Lib.hid (show ∀ (A' : Option Addr) (c' : Nat) (wx : World) (hb : Below w.heap.size w wx) (h : R1 wx A'), Calls Tryd.prog 16 #[tV x.k x.z x.t A' x.l.length c', tV x.k x.z x.t A x.l.length c] wx (Yes wx) by rw [hR1]; exact HQ1.out)
  have HR1' := Lib.hid (show ∀ (wx w' : World) (A' : Option Addr) (h : R1 wx A') (hb : Below wx.heap.size wx w'), R1 w' A' by rw [hR1]; exact HR1.out)
  clear HD HQ1 HR1 hR1
  generalize x.k = xk at *
  generalize x.z = xz at *
  generalize x.t = xt at *
  generalize x.l.length = xl at *
  obtain ⟨x0, x1, x2, x3⟩ := cells4 HN.out.1
  cases sx with
  | false =>
    go_enter Tryd.func5, Tryd.ntmps5
    go_wp2_with (first
      | (go_at_call 10; refine Calls.mono (HS1.out _ HN.out.2) ?_; (rintro e w1 ⟨rfl, hb1⟩; have HB1 := Lib.hid (HN.out.2.trans (hb1.mono HN.out.2.size)); clear hb1))
      | (go_at_call 11; refine Calls.mono (HA.out _ HB1.out) ?_; (rintro e w2 ⟨rfl, hb2⟩; have HB2 := Lib.hid (HB1.out.trans (hb2.mono HB1.out.size)); clear hb2)))
    go_ret
    exact ⟨rfl, HB2.out⟩
  | true =>
    have hSz := HSZ.out rfl
    have hov : ¬ 9223372036854775807 < S.size + more.size := by omega
    cases ox with
    | false =>
      clear HD' HQ1'
      go_enter Tryd.func5, Tryd.ntmps5
      go_wp2_with (first
        | (go_at_call 10; refine Calls.mono (HS1.out _ HN.out.2) ?_; (rintro e w1 ⟨rfl, hb1⟩; have HB1 := Lib.hid (HN.out.2.trans (hb1.mono HN.out.2.size)); have HX1 := Lib.hid (keep_blk hb1 HN.out.1); clear hb1 x0 x1 x2 x3; obtain ⟨x0, x1, x2, x3⟩ := cells4 HX1.out))
        | (go_at_call 12; refine Calls.mono (HE1.out (by first | rfl | trivial) _ HB1.out) ?_; (rintro e w2 ⟨rfl, hb2⟩; have HB2 := Lib.hid (HB1.out.trans (hb2.mono HB1.out.size)); clear hb2 x0 x1 x2 x3))
        | (go_at_call 14; refine Calls.mono (HD2.out (by first | rfl | trivial) _ HB2.out) ?_; (rintro e w3 ⟨q1, q2, q3, q4, q5, q6, q7, q8, rfl, hb3⟩; have HB3 := Lib.hid (HB2.out.trans (hb3.mono HB2.out.size)); clear hb3))
        | (go_at_call 11; refine Calls.mono (HA.out _ (HB3.out.alloc HB3.out.size _)) ?_; (rintro e w4 ⟨rfl, hb4⟩; have HB4 := Lib.hid ((HB3.out.alloc HB3.out.size _).trans (hb4.mono (HB3.out.alloc HB3.out.size _).size)); clear hb4)))
      go_ret
      exact ⟨rfl, HB4.out⟩
    | true =>
      clear HD2
      go_enter Tryd.func5, Tryd.ntmps5
      go_upto_region 4 with (first
        | (go_at_call 10; refine Calls.mono (HS1.out _ HN.out.2) ?_; (rintro e w1 ⟨rfl, hb1⟩; have HB1 := Lib.hid (HN.out.2.trans (hb1.mono HN.out.2.size)); have HX1 := Lib.hid (keep_blk hb1 HN.out.1); clear hb1 x0 x1 x2 x3; obtain ⟨x0, x1, x2, x3⟩ := cells4 HX1.out))
        | (go_at_call 12; refine Calls.mono (HE1.out (by first | rfl | trivial) _ HB1.out) ?_; (rintro e w2 ⟨rfl, hb2⟩; have HB2 := Lib.hid (HB1.out.trans (hb2.mono HB1.out.size)); have HX2 := Lib.hid (keep_blk hb2 HX1.out); clear hb2 x0 x1 x2 x3; obtain ⟨x0, x1, x2, x3⟩ := cells4 HX2.out)))
      go_cut [2, 5, 6, 7, 8, 9] (fun s2 s5 s6 s7 s8 s9 wx => ∃ (g1 : Nat) (A1 : Option Addr) (c1 : Nat), s2 = .pointer (some ⟨w.heap.size, 0, none⟩) ∧ s5 = .string S ∧ s6 = .bool true ∧ s7 = .pointer (some ⟨g1, 0, none⟩) ∧ s8 = .int .i64 (S.size : Int) ∧ s9 = .int .i64 0 ∧ RowKit.Hid (wx.heap[g1]? = some (.cells #[.int .i64 xk, .int .i64 xz, .string xt, .slice A1 xl c1] 24 (0, 0))) ∧ RowKit.Hid (R1 wx A1) ∧ RowKit.Hid (wx.heap[w.heap.size]? = some (.cells #[.int .i64 xk, .int .i64 xz, .string xt, .slice A xl c] 24 (0, 0))) ∧ RowKit.Hid (Below w.heap.size w wx))
      case first =>
        go_wp2_with (go_at_call 14; refine Calls.mono (HD'.out (by first | rfl | trivial) (by first | rfl | trivial) _ HB2.out) ?_; (rintro e w3 ⟨A1, c1, rfl, hr3, hb3⟩; have HR3 := Lib.hid hr3; have HX3 := Lib.hid (keep_blk hb3 HX2.out); have HB3 := Lib.hid (HB2.out.trans (hb3.mono HB2.out.size)); clear hr3 hb3))
        go_meet
        exact ⟨_, A1, c1, rfl, rfl, rfl, rfl, rfl, rfl, Lib.hid (heap_alloc_new w3 _), Lib.hid (HR1'.out _ _ _ HR3.out ((Below.refl _ _).alloc (Nat.le_refl _) _)), Lib.hid (blk_new HX3.out _), Lib.hid (HB3.out.alloc HB3.out.size _)⟩
      case rest =>
        clear x0 x1 x2 x3 HX2 HB2 HX1 HB1 HN
        obtain ⟨g1, A1, c1, rfl, rfl, rfl, rfl, rfl, rfl, HG, HR, HX, HB⟩ := hcut
        go_wp2_with (first
          | (go_at_call 11; refine Calls.mono (HA.out _ HB.out) ?_; (rintro e w4 ⟨rfl, hb4⟩; have HB4 := Lib.hid (HB.out.trans (hb4.mono HB.out.size)); have HR4 := Lib.hid (HR1'.out _ _ _ HR.out hb4); have HX4 := Lib.hid (keep_blk hb4 HX.out); have HG4 := Lib.hid (keep_blk hb4 HG.out); clear hb4; obtain ⟨x0, x1, x2, x3⟩ := cells4 HX4.out; obtain ⟨y0, y1, y2, y3⟩ := cells4 HG4.out))
          | (go_at_call 16; refine Calls.mono (HQ1'.out A1 c1 _ HB4.out HR4.out) ?_; (rintro e w5 ⟨rfl, hb5⟩; have HB5 := Lib.hid (HB4.out.trans (hb5.mono HB4.out.size)); clear hb5)))
        go_ret
        exact ⟨rfl, HB5.out⟩
end Go.Proofs.YteghfinngilfgaaDoor.T
