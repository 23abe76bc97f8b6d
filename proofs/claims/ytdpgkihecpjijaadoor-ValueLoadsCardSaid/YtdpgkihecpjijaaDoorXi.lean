import Derived.Deep.DeepCutAuto
import Derived.Laws.OwnMore
import Derived.OwnWalk
import Derived.Lib.AppendStr
import Derived.Laws.IdiomStrings
import Derived.Lib.ConvBytes
import Derived.Lib.SmallJoins
import Derived.IntWalk
import Derived.Deep.AppendLies
import Derived.Deep.RegionLaw
import Derived.Test.YtdpgkihecpjijaaDoorProg
import Derived.Test.YtdpgkihecpjijaaDoorMem
import Derived.Test.YtdpgkihecpjijaaDoorVi
import Derived.Test.YtdpgkihecpjijaaDoorVu
import Derived.Test.YtdpgkihecpjijaaDoorVw
import Derived.Test.YtdpgkihecpjijaaDoorVx
import Derived.Test.YtdpgkihecpjijaaDoorVy
import Derived.Test.YtdpgkihecpjijaaDoorWb
import Derived.Test.YtdpgkihecpjijaaDoorWc
import Derived.Test.YtdpgkihecpjijaaDoorWf
import Derived.Test.YtdpgkihecpjijaaDoorWw
import Derived.Test.YtdpgkihecpjijaaDoorWr
import Derived.Test.YtdpgkihecpjijaaDoorXa
import Derived.Test.YtdpgkihecpjijaaDoorXg
import Derived.WalkKit
import Derived.Outline
import Derived.WalkLawsBesides
import Derived.Deep.QuietTactic
import Derived.BigQuiet
import Derived.Lib.Hide
import Derived.Handy
import Derived.Deep.RegionHeld3
import Derived.Deep.DrawnRows
import Derived.KernelRfl
import Derived.Great.Walk
import Derived.Test.YtdpgkihecpjijaaDoorOwn
namespace Go.Proofs.YtdpgkihecpjijaaDoor.T
open Go Go.RowKit Mem Own
set_option maxRecDepth 100000
set_option maxHeartbeats 1000000
set_option linter.unusedVariables false
set_option linter.unusedSimpArgs false

theorem head_dump {a : Vl} : headB (B (dumpB a)) = B (body a) := by
  unfold headB
  rw [ext_list, B_list, B_size]
  have : (dumpB a).length - 2 = (body a).length := by simp [dumpB, sumB, two16]
  rw [this, List.drop_zero, Nat.sub_zero]
  unfold dumpB
  rw [List.take_left]
/-- Load by reading, writing again and comparing. -/
theorem load_by {s : ByteArray} (h : ¬ s.size < 3) (hs : sumOk s) :
    (RightV (readV (headB s)) ∧ B (dumpB (readV (headB s))) = s → loadV s = (readV (headB s), 0)) ∧ (¬ (RightV (readV (headB s)) ∧ B (dumpB (readV (headB s))) = s) → loadV s = (zeroV, 100)) := by
  constructor
  · intro ⟨h1, h2⟩
    have := load_dump _ h1
    rw [h2] at this
    exact this
  · intro hn
    by_cases hg : goodR (rdVal (headB s) false)
    · exfalso
      have hl : loadV s = ((rdVal (headB s) false).1, 0) := by
        unfold loadV
        rw [if_neg h, if_neg (fun hc => hc hs), if_pos hg]
      obtain ⟨h1, h2⟩ := dump_load hl
      have h3 : readV (headB s) = (rdVal (headB s) false).1 := by
        conv => lhs; rw [h2, head_dump]
        exact read_body _ h1
      exact hn ⟨by rw [h3]; exact h1, by rw [h3]; exact h2.symm⟩
    · unfold loadV
      rw [if_neg h, if_neg (fun hc => hc hs), if_neg hg]
theorem rsum_bw (b m C : Nat) (t : ByteArray) (c : Nat) (w : World) (hC : (crcL 0#16 t.data.toList).toNat = C) (hb : w.heap.size = b) (hm : t.size = m) (ht : t.size ≤ maxLen) :
    Calls Tryd.prog 31 #[.slice (some ⟨b, 0, none⟩) m c] (Lib.bytesWorld w 5 t) fun e w' => e = .returned (.int .u16 (C : Int)) ∧ Lib.bytesWorld w 5 t = w' := by
  subst hb
  subst hm
  subst hC
  exact rsum_is _ t.data.toList c _ (bw_rd w t) (by simpa using ht)
theorem rload_short (s : ByteArray) (w : World) (h : s.size < 3) : Calls Tryd.prog 16 #[.string s] w (LoadOut s w) := by
  have HV := Lib.hid (show loadV s = (zeroV, 100) by unfold loadV; rw [if_pos h])
  go_enter Tryd.func16, Tryd.ntmps16
  go_wp2
  exact bodyPost_ret (v := .tuple #[vV 0 ⟨#[]⟩ none 0 0 none 0 0 0 0, .int .i64 100]) (by simp [results, Tryd.results16, go_sem]) rfl (load_zero HV.out (by ((repeat (first | exact Below.refl _ _ | (refine Below.drew ?_) | (refine Go.below_drewN ?_ _) | (refine Below.alloc ?_ (by first | (simp; done) | omega | (simp; omega)) _) | (refine Below.setCell ?_ (by first | (simp; done) | omega | (simp; omega)) _) | (refine Below.trans ?_ (Below.mono (by assumption) (by first | (simp; done) | omega | (simp; omega)))))); done)))
theorem rload_big (s : ByteArray) (w : World) (h : ¬ s.size < 3) (hs : s.size ≤ maxLen) : Calls Tryd.prog 16 #[.string s] w (LoadOut s w) := by
  have hn : ((s.size : Int) - 2) = ((s.size - 2 : Nat) : Int) := by omega
  obtain ⟨n, hnn⟩ : ∃ n, n = s.size - 2 := ⟨_, rfl⟩
  rw [← hnn] at hn
  have hlt : n ≤ s.size := by omega
  have h1 : 1 ≤ n := by omega
  have kc := fun (w' : World) (t : ByteArray) => Lib.run_convert_string_bytes (P := Tryd.prog) w' 9 38 5 t Tryd.underlying9 Tryd.underlying38 Tryd.underlying5
  obtain ⟨C, hC⟩ : ∃ C, (crcL 0#16 (s.extract 0 n).data.toList).toNat = C := ⟨_, rfl⟩
  have hCl : C < 65536 := by rw [← hC]; exact BitVec.isLt _
  have hCm : C ≤ maxLen := by unfold maxLen; omega
  have kC : IntKind.i64.wrap (C : Int) = C := IntWalk.i64_in _ ⟨by omega, by omega⟩
  obtain ⟨t, ht⟩ : ∃ t, t = s.extract 0 n := ⟨_, rfl⟩
  have hts : t.size ≤ maxLen := by rw [ht]; simp [ByteArray.size_extract]; omega
  have ht1 : 1 ≤ t.size := by rw [ht]; simp [ByteArray.size_extract]; omega
  obtain ⟨q, hne⟩ : ∃ q, ((B (two16 C)).toList == (s.extract n s.size).toList) = q := ⟨_, rfl⟩
  have HSO := Lib.hid (show q = true ↔ sumOk s by
    rw [← hne, beq_iff_eq, ByteArray.toList_eq, ByteArray.toList_eq]
    unfold sumOk sumB headB
    rw [← hnn, ← hC]
    exact Iff.rfl)
  have HV1 := Lib.hid (show ¬ sumOk s → loadV s = (zeroV, 101) from fun hc => by unfold loadV; rw [if_neg h, if_pos hc])
  have HV2 := Lib.hid (show sumOk s → _ from fun hc => load_by h hc)
  have hhd : headB s = s.extract 0 n := by unfold headB; rw [← hnn]
  rw [hhd] at HV2
  obtain ⟨a, ha⟩ : ∃ a, a = readV (s.extract 0 n) := ⟨_, rfl⟩
  rw [← ha] at HV2
  have HA0 := Lib.hid ha
  have HSM := Lib.hid (show smallV a by rw [ha]; exact read_small _)
  unfold maxLen at hs
  have HTS := Lib.hid hts
  have HT1 := Lib.hid ht1
  clear hnn h hts hhd ha ht1
  rw [ht] at HTS HT1
  have HC := Lib.hid hC
  clear ht hC
  go_enter Tryd.func16, Tryd.ntmps16
  go_upto_region 4 with fail
  go_cut [24] (fun s24 wx => s24 = .bool (!q) ∧ RowKit.Hid (Below (w.heap.size + 1) (w.alloc (.cells #[.int .i64 0, .string ⟨#[]⟩, .slice none 0 0, .slice none 0 0, .int .i64 0, .int .i64 0] 27)) wx))
  case first =>
    go_region_with (first
      | (go_at_call 31; refine Calls.mono (rsum_bw _ _ C (s.extract 0 n) _ _ HC.out ?_ ?_ HTS.out) ?_; (focus (simp; done)); (focus (simp [ByteArray.size_extract]; omega)); rintro e w1 ⟨rfl, rfl⟩)
      | (go_at_call 32; refine Calls.mono (rtwo_is C _ hCm) ?_; rintro e w2 ⟨rfl, hb2⟩))
    all_goals
      go_wp2
      go_meet
      exact ⟨by simp [bne, hne], Lib.hid ((Below.drew (Below.refl _ _)).trans ((Joins.below_bytesWorld _ _ 5 (s.extract 0 n) (by simp)).trans (hb2.mono (by rw [Lib.bytesWorld_size]; simp))))⟩
  case rest =>
    obtain ⟨rfl, HB⟩ := hcut
    have HZ := Lib.hid (box_blk HB.out)
    obtain ⟨d0, d1, d2, d3, d4, d5⟩ := facts6 HZ.out
    obtain ⟨f0, f1, f2, f3, f4, f5⟩ := free6 HZ.out
    have hz := lt_of_block HZ.out
    have hu := Tryd.underlying25
    cases q
    · have HV := Lib.hid (HV1.out (by rw [← HSO.out]; simp))
      go_wp2
      refine end6 (u := .int .i64 101) Tryd.results16 ?_ ?_ (set6 _ _ _ _ _ _ HZ.out) ?_
      · rfl
      · rfl
      · exact load_zero HV.out (below_s6 (box_below HB.out) (Nat.le_refl _))
    · have HV := Lib.hid (HV2.out (HSO.out.1 rfl))
      have HB1 := Lib.hid (box_below HB.out)
      go_upto_region 6 with fail
      go_cut [5] (fun s5 wz => ∃ (B5 : Nat) (PA : Option Addr) (pc : Nat) (IA : Option Addr) (ic : Nat), s5 = .pointer (some ⟨B5, 0, none⟩) ∧ w.heap.size < B5 ∧ RowKit.Hid (wz.heap[B5]? = some (.cells #[.int .i64 (a.kind : Int), .string a.text, .slice PA a.pairs.length pc, .slice IA a.items.length ic, .int .i64 a.re, .int .i64 a.im] 27 (0, 0))) ∧ RowKit.Hid (VRd wz (vV a.kind a.text PA a.pairs.length pc IA a.items.length ic a.re a.im) a) ∧ RowKit.Hid (wz.heap[w.heap.size]? = some (.cells #[.int .i64 0, .string ⟨#[]⟩, .slice none 0 0, .slice none 0 0, .int .i64 0, .int .i64 0] 27 (0, 0))) ∧ RowKit.Hid (Below w.heap.size w wz))
      case first =>
        go_wp2_with (go_at_call 34; refine Calls.mono (rread_is (s.extract 0 n) _ HTS.out HT1.out) ?_; rw [← HA0.out]; rintro e w2 ⟨u, rfl, HU, hb2⟩; obtain ⟨⟨PA, pc, IA, ic, rfl, -, -⟩, -⟩ := id HU.out)
        go_meet
        have hs2 := hb2.size
        have ba := (Below.refl w2.heap.size w2).alloc (Nat.le_refl _) (.cells #[.int .i64 (a.kind : Int), .string a.text, .slice PA a.pairs.length pc, .slice IA a.items.length ic, .int .i64 a.re, .int .i64 a.im] 27)
        exact ⟨_, PA, pc, IA, ic, rfl, by omega, Lib.hid (heap_alloc_new _ _), Lib.hid (HU.out.below ba), Lib.hid (keep_block ba (keep_block hb2 HZ.out)), Lib.hid ((HB1.out.trans (hb2.mono (by omega))).alloc (by omega) _)⟩
      case rest =>
        obtain ⟨B5, PA, pc, IA, ic, rfl, hB, HY, HA, HZz, HBz⟩ := hcut
        clear d0 d1 d2 d3 d4 d5 f0 f1 f2 f3 f4 f5
        obtain ⟨d0, d1, d2, d3, d4, d5⟩ := facts6 HZz.out
        obtain ⟨f0, f1, f2, f3, f4, f5⟩ := free6 HZz.out
        obtain ⟨e0, e1, e2, e3, e4, e5⟩ := facts6 HY.out
        have hzz := lt_of_block HZz.out
        by_cases hra : RightV a
        · have HRA := Lib.hid hra
          obtain ⟨x, hx⟩ : ∃ x, x = B (dumpB a) := ⟨_, rfl⟩
          have HX := Lib.hid hx
          by_cases hxs : x = s
          · have HVV := Lib.hid (HV.out.1 ⟨hra, by rw [← hx]; exact hxs⟩)
            subst hxs
            clear hra hx
            go_wp2_with (go_at_call 14; refine Calls.mono (rdump_yes _ _ _ HA.out HRA.out) ?_; rintro e w3 ⟨rfl, hb3⟩; rw [← HX.out]; have HZ3 := Lib.hid (keep_block hb3 HZz.out); clear d0 d1 d2 d3 d4 d5 f0 f1 f2 f3 f4 f5 e0 e1 e2 e3 e4 e5; obtain ⟨d0, d1, d2, d3, d4, d5⟩ := facts6 HZ3.out; obtain ⟨f0, f1, f2, f3, f4, f5⟩ := free6 HZ3.out; have HY3 := Lib.hid (keep_block hb3 HY.out); obtain ⟨e0, e1, e2, e3, e4, e5⟩ := facts6 HY3.out)
            refine end6 (u := .int .i64 0) Tryd.results16 ?_ ?_ (set6 _ _ _ _ _ _ HZ3.out) ?_
            · rfl
            · rfl
            · exact load_good HVV.out (vrd_over HZ3.out (HA.out.below hb3) HRA.out) (below_s6 (HBz.out.trans (hb3.mono (by omega))) (Nat.le_refl _))
          · have HVV := Lib.hid (HV.out.2 (fun hc => hxs (by rw [hx]; exact hc.2)))
            have hxe : (x.toList == s.toList) = false := by rw [beq_eq_false_iff_ne]; intro e; exact hxs (ba_inj e)
            clear hra hx hxs
            go_wp2_with (go_at_call 14; refine Calls.mono (rdump_yes _ _ _ HA.out HRA.out) ?_; rintro e w3 ⟨rfl, hb3⟩; rw [← HX.out]; have HZ3 := Lib.hid (keep_block hb3 HZz.out); clear d0 d1 d2 d3 d4 d5 f0 f1 f2 f3 f4 f5 e0 e1 e2 e3 e4 e5; obtain ⟨d0, d1, d2, d3, d4, d5⟩ := facts6 HZ3.out; obtain ⟨f0, f1, f2, f3, f4, f5⟩ := free6 HZ3.out; have HY3 := Lib.hid (keep_block hb3 HY.out); obtain ⟨e0, e1, e2, e3, e4, e5⟩ := facts6 HY3.out)
            refine end6 (u := .int .i64 100) Tryd.results16 ?_ ?_ (set6 _ _ _ _ _ _ HZ3.out) ?_
            · rfl
            · rfl
            · exact load_zero HVV.out (below_s6 (HBz.out.trans (hb3.mono (by omega))) (Nat.le_refl _))
        · have HRA := Lib.hid hra
          have HVV := Lib.hid (HV.out.2 (fun hc => hra hc.1))
          clear hra
          go_wp2_with (go_at_call 14; refine Calls.mono (rdump_no _ _ _ HA.out HSM.out HRA.out) ?_; rintro e w3 ⟨rfl, hb3⟩; have HZ3 := Lib.hid (keep_block hb3 HZz.out); clear d0 d1 d2 d3 d4 d5 f0 f1 f2 f3 f4 f5 e0 e1 e2 e3 e4 e5; obtain ⟨d0, d1, d2, d3, d4, d5⟩ := facts6 HZ3.out; obtain ⟨f0, f1, f2, f3, f4, f5⟩ := free6 HZ3.out; have HY3 := Lib.hid (keep_block hb3 HY.out); obtain ⟨e0, e1, e2, e3, e4, e5⟩ := facts6 HY3.out)
          refine end6 (u := .int .i64 100) Tryd.results16 ?_ ?_ (set6 _ _ _ _ _ _ HZ3.out) ?_
          · rfl
          · rfl
          · exact load_zero HVV.out (below_s6 (HBz.out.trans (hb3.mono (by omega))) (Nat.le_refl _))
theorem rload_is (s : ByteArray) (w : World) (hs : s.size ≤ maxLen) : Calls Tryd.prog 16 #[.string s] w (LoadOut s w) := by
  by_cases h : s.size < 3
  · exact rload_short s w h
  · exact rload_big s w h hs
theorem rload_as {s : ByteArray} {a : Vl} {c : Int} (w : World) (h : loadV s = (a, c)) (hs : s.size ≤ maxLen) :
    Calls Tryd.prog 16 #[.string s] w fun e w' => ∃ PA pc IA ic, e = .returned (.tuple #[vV a.kind a.text PA a.pairs.length pc IA a.items.length ic a.re a.im, .int .i64 c]) ∧ RowKit.Hid (VRd w' (vV a.kind a.text PA a.pairs.length pc IA a.items.length ic a.re a.im) a) ∧ Below w.heap.size w w' := by
  refine (rload_is s w hs).mono ?_
  rintro e w' ⟨u, rfl, HU, hb⟩
  rw [h] at HU
  obtain ⟨⟨PA, pc, IA, ic, rfl, -, -⟩, -⟩ := id HU.out
  rw [h]
  exact ⟨PA, pc, IA, ic, rfl, HU, hb⟩
/-- ValueLoads -/
theorem loads_is (s : ByteArray) (w : World) (hs : s.size ≤ maxLen) (hh : Hv w) : Calls Tryd.prog 4 #[.string s] w fun e w' => e = .returned (.bool true) ∧ Below w.heap.size w w' := by
  have HH := Lib.hid hh
  have hu := Tryd.underlying25
  generalize hl : loadV s = r
  obtain ⟨⟨k, t, ps, is, re, im⟩, c⟩ := r
  have HL := Lib.hid hl
  have HS := Lib.hid hs
  clear hl hh hs
  go_enter Tryd.func4, Tryd.ntmps4
  go_upto_region 1 with fail
  go_cut [3, 4] (fun s3 s4 wx => ∃ (b : Nat) (PA : Option Addr) (pc : Nat) (IA : Option Addr) (ic : Nat), s3 = .pointer (some ⟨b, 0, none⟩) ∧ s4 = .int .i64 c ∧ w.heap.size ≤ b ∧ RowKit.Hid (wx.heap[b]? = some (.cells #[.int .i64 k, .string t, .slice PA ps.length pc, .slice IA is.length ic, .int .i64 re, .int .i64 im] 27 (0, 0))) ∧ RowKit.Hid (VRd wx (vV k t PA ps.length pc IA is.length ic re im) ⟨k, t, ps, is, re, im⟩) ∧ RowKit.Hid (Below w.heap.size w wx))
  case first =>
    go_wp2_with (go_at_call 15; refine Calls.mono (load_as _ HL.out HS.out HH.out) ?_; rintro e w1 ⟨PA, pc, IA, ic, rfl, HU, hb1⟩)
    go_meet
    have ba := (Below.refl w1.heap.size w1).alloc (Nat.le_refl _) (vO k t PA ps.length pc IA is.length ic re im)
    exact ⟨_, PA, pc, IA, ic, rfl, rfl, hb1.size, Lib.hid (heap_alloc_new _ _), Lib.hid (HU.out.below ba), Lib.hid (hb1.alloc hb1.size _)⟩
  case rest =>
    obtain ⟨b, PA, pc, IA, ic, rfl, rfl, hb, HY, HA, HB⟩ := hcut
    have hz := HB.out.size
    go_upto_region 2 with fail
    go_cut [5, 6] (fun s5 s6 wx => ∃ (b' : Nat) (PA' : Option Addr) (pc' : Nat) (IA' : Option Addr) (ic' : Nat), s5 = .pointer (some ⟨b', 0, none⟩) ∧ s6 = .int .i64 c ∧ RowKit.Hid (wx.heap[b']? = some (.cells #[.int .i64 k, .string t, .slice PA' ps.length pc', .slice IA' is.length ic', .int .i64 re, .int .i64 im] 27 (0, 0))) ∧ RowKit.Hid (VRd wx (vV k t PA' ps.length pc' IA' is.length ic' re im) ⟨k, t, ps, is, re, im⟩) ∧ RowKit.Hid (wx.heap[b]? = some (.cells #[.int .i64 k, .string t, .slice PA ps.length pc, .slice IA is.length ic, .int .i64 re, .int .i64 im] 27 (0, 0))) ∧ RowKit.Hid (VRd wx (vV k t PA ps.length pc IA is.length ic re im) ⟨k, t, ps, is, re, im⟩) ∧ RowKit.Hid (Below w.heap.size w wx))
    case first =>
      go_wp2_with (go_at_call 16; refine Calls.mono (rload_as _ HL.out HS.out) ?_; rintro e w2 ⟨PA', pc', IA', ic', rfl, HU, hb2⟩)
      go_meet
      have ba := (Below.refl w2.heap.size w2).alloc (Nat.le_refl _) (vO k t PA' ps.length pc' IA' is.length ic' re im)
      exact ⟨_, PA', pc', IA', ic', rfl, rfl, Lib.hid (heap_alloc_new _ _), Lib.hid (HU.out.below ba), Lib.hid (keep_block ba (keep_block hb2 HY.out)), Lib.hid ((HA.out.below hb2).below ba), Lib.hid ((HB.out.trans (hb2.mono hz)).alloc (Nat.le_trans hz hb2.size) _)⟩
    case rest =>
      obtain ⟨b', PA', pc', IA', ic', rfl, rfl, HY', HA', HYb, HAb, HBb⟩ := hcut
      have hz2 := HBb.out.size
      go_wp2_with (first
        | (go_at_call 12; refine Calls.mono (alive_is _ (HH.out.below HBb.out)) ?_; rintro e w4 ⟨rfl, hb4⟩; have hz4 := hb4.size; obtain ⟨d0, d1, d2, d3, d4, d5⟩ := facts6 (keep_block hb4 HYb.out); obtain ⟨e0, e1, e2, e3, e4, e5⟩ := facts6 (keep_block hb4 HY'.out))
        | (go_at_call 17; refine Calls.mono (rsame_yes _ _ _ _ _ (HAb.out.below hb4) (HA'.out.below hb4) rfl) ?_; rintro e w5 ⟨rfl, hb5⟩))
      go_ret
      exact ⟨rfl, HBb.out.trans ((hb4.mono hz2).trans (hb5.mono (Nat.le_trans hz2 hz4)))⟩
end Go.Proofs.YtdpgkihecpjijaaDoor.T
