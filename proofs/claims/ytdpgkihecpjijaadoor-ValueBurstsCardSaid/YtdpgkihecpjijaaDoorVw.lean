import Derived.Deep.DeepCutAuto
import Derived.Laws.OwnMore
import Derived.OwnWalk
import Derived.Lib.AppendStr
import Derived.Laws.IdiomStrings
import Derived.Lib.ConvBytes
import Derived.Lib.SmallJoins
import Derived.IntWalk
import Derived.Deep.AppendLies
import Derived.Deep.RegionLaw
import Derived.Test.YtdpgkihecpjijaaDoorProg
import Derived.Test.YtdpgkihecpjijaaDoorMem
import Derived.Test.YtdpgkihecpjijaaDoorVv
import Derived.WalkKit
import Derived.Outline
import Derived.WalkLawsBesides
import Derived.Deep.QuietTactic
import Derived.BigQuiet
import Derived.Lib.Hide
import Derived.Handy
import Derived.Deep.RegionHeld3
import Derived.Deep.DrawnRows
import Derived.KernelRfl
import Derived.Sort.Walk0
import Derived.Great.Walk
import Derived.Test.YtdpgkihecpjijaaDoorOwn
namespace Go.Proofs.YtdpgkihecpjijaaDoor.T
open Go Go.RowKit Mem Own
set_option maxRecDepth 100000
set_option maxHeartbeats 1000000
set_option linter.unusedVariables false
set_option linter.unusedSimpArgs false

open Classical in
theorem load_big (s : ByteArray) (w : World) (h : ¬ s.size < 3) (hs : s.size ≤ maxLen) (hh : Hv w) : Calls Tryd.prog 15 #[.string s] w (LoadOut s w) := by
  have HH := Lib.hid hh
  have hn : ((s.size : Int) - 2) = ((s.size - 2 : Nat) : Int) := by omega
  obtain ⟨n, hnn⟩ : ∃ n, n = s.size - 2 := ⟨_, rfl⟩
  rw [← hnn] at hn
  have hlt : n ≤ s.size := by omega
  have h1 : 1 ≤ n := by omega
  have kc := fun (w' : World) (t : ByteArray) => Lib.run_convert_string_bytes (P := Tryd.prog) w' 9 38 5 t Tryd.underlying9 Tryd.underlying38 Tryd.underlying5
  obtain ⟨C, hC⟩ : ∃ C, (crcL 0#16 (s.extract 0 n).data.toList).toNat = C := ⟨_, rfl⟩
  have hCl : C < 65536 := by rw [← hC]; exact BitVec.isLt _
  have kC : IntKind.i64.wrap (C : Int) = C := IntWalk.i64_in _ ⟨by omega, by omega⟩
  obtain ⟨t, ht⟩ : ∃ t, t = s.extract 0 n := ⟨_, rfl⟩
  have hts : t.size ≤ maxLen := by rw [ht]; simp [ByteArray.size_extract]; omega
  obtain ⟨q, hne⟩ : ∃ q, (two16 C == (s.extract n s.size).toList) = q := ⟨_, rfl⟩
  have HSO := Lib.hid (show q = true ↔ sumOk s by
    rw [← hne, beq_iff_eq, ByteArray.toList_eq]
    unfold sumOk sumB headB
    rw [← hnn, ← hC])
  have HLV := Lib.hid (show loadV s = if ¬ sumOk s then (zeroV, 101) else if goodR (rdVal (s.extract 0 n) false) then ((rdVal (s.extract 0 n) false).1, 0) else (zeroV, 100) by
    unfold loadV; rw [if_neg h]; unfold headB; rw [← hnn])
  unfold maxLen at hs
  have HTS := Lib.hid hts
  clear hnn hh h hts
  rw [ht] at HTS
  have HC := Lib.hid hC
  clear ht hC
  go_enter Tryd.func15, Tryd.ntmps15
  go_upto_region 4 with fail
  go_cut [14] (fun s14 wx => s14 = .bool (!q) ∧ RowKit.Hid (Below (w.heap.size + 1) (w.alloc (.cells #[.int .i64 0, .string ⟨#[]⟩, .slice none 0 0, .slice none 0 0, .int .i64 0, .int .i64 0] 27)) wx))
  case first =>
    go_region_with (first
      | (go_at_call 29; refine Calls.mono (sum_bw _ _ C (s.extract 0 n) _ _ HC.out ?_ ?_ HTS.out (HH.out.below ?_)) ?_; (focus (simp; done)); (focus (simp [ByteArray.size_extract]; omega)); (focus ((repeat (first | exact Below.refl _ _ | (refine Below.drew ?_) | (refine Go.below_drewN ?_ _) | (refine Below.alloc ?_ (by first | (simp; done) | omega | (simp; omega)) _) | (refine Below.setCell ?_ (by first | (simp; done) | omega | (simp; omega)) _) | (refine Below.trans ?_ (Below.mono (by assumption) (by first | (simp; done) | omega | (simp; omega)))))); done)); rintro e w1 ⟨rfl, rfl⟩)
      | (go_at_call 27; refine Calls.mono (two_nil C _ hCl) ?_; rintro e w2 ⟨v, rfl, HKC, hb2⟩; have kc2 := HKC.out))
    go_wp2
    go_meet
    exact ⟨by simp [bne, hne], Lib.hid ((Below.drew (Below.refl _ _)).trans ((Joins.below_bytesWorld _ _ 5 (s.extract 0 n) (by simp)).trans (hb2.mono (by rw [Lib.bytesWorld_size]; simp))))⟩
  case rest =>
    obtain ⟨rfl, HB⟩ := hcut
    have HZ := Lib.hid (box_blk HB.out)
    obtain ⟨d0, d1, d2, d3, d4, d5⟩ := facts6 HZ.out
    obtain ⟨f0, f1, f2, f3, f4, f5⟩ := free6 HZ.out
    have hz := lt_of_block HZ.out
    cases q
    · have HV := Lib.hid (show loadV s = (zeroV, 101) by rw [HLV.out, if_pos (by rw [← HSO.out]; simp)])
      go_wp2
      refine end6 (u := .int .i64 101) Tryd.results15 ?_ ?_ (set6 _ _ _ _ _ _ HZ.out) ?_
      · rfl
      · rfl
      · exact load_zero HV.out (below_s6 (box_below HB.out) (Nat.le_refl _))
    · generalize hr : rdVal (s.extract 0 n) false = r at HLV
      obtain ⟨a, s1, b1⟩ := r
      have HR := Lib.hid hr
      have HV := Lib.hid (show loadV s = if goodR (a, s1, b1) then (a, 0) else (zeroV, 100) by rw [HLV.out, if_neg (by rw [← HSO.out]; simp)])
      clear hr
      go_upto_region 6 with fail
      go_cut [5] (fun s5 wy => ∃ g : Nat, s5 = .pointer (some ⟨g, 0, none⟩) ∧ w.heap.size < g ∧ RowKit.Hid (Rdr wy g (s.extract 0 n) false) ∧ RowKit.Hid (wy.heap[w.heap.size]? = some (.cells #[.int .i64 0, .string ⟨#[]⟩, .slice none 0 0, .slice none 0 0, .int .i64 0, .int .i64 0] 27 (0, 0))) ∧ RowKit.Hid (Below w.heap.size w wy))
      case first =>
        go_wp2
        go_meet
        trace "C"
        exact ⟨_, rfl, hz, Lib.hid (heap_alloc_new _ _), Lib.hid (keep_block ((Below.refl _ _).alloc (Nat.le_refl _) _) HZ.out), Lib.hid ((box_below HB.out).alloc (Nat.le_of_lt hz) _)⟩
      case rest =>
        obtain ⟨g, rfl, hg, HRD, HZ, HB⟩ := hcut
        have hzy := lt_of_block HZ.out
        have hgy := lt_of_block HRD.out
        go_upto_region 7 with fail
        go_cut [6] (fun s6 wz => ∃ (B : Nat) (PA : Option Addr) (pc : Nat) (IA : Option Addr) (ic : Nat), s6 = .pointer (some ⟨B, 0, none⟩) ∧ w.heap.size < B ∧ g ≠ B ∧ RowKit.Hid (wz.heap[B]? = some (.cells #[.int .i64 (a.kind : Int), .string a.text, .slice PA a.pairs.length pc, .slice IA a.items.length ic, .int .i64 a.re, .int .i64 a.im] 27 (0, 0))) ∧ RowKit.Hid (VRd wz (vV a.kind a.text PA a.pairs.length pc IA a.items.length ic a.re a.im) a) ∧ RowKit.Hid (Rdr wz g s1 b1) ∧ RowKit.Hid (wz.heap[w.heap.size]? = some (.cells #[.int .i64 0, .string ⟨#[]⟩, .slice none 0 0, .slice none 0 0, .int .i64 0, .int .i64 0] 27 (0, 0))) ∧ RowKit.Hid (Below w.heap.size w wz))
        case first =>
          have hu := Tryd.underlying25
          go_wp2_with (go_at_call 33; refine Calls.mono (rvalue_is g (s.extract 0 n) false _ HRD.out HTS.out) ?_; rw [HR.out]; rintro e w2 ⟨u, rfl, HU, HR2, HG2⟩; dsimp only at HU HR2; obtain ⟨⟨PA, pc, IA, ic, rfl, -, -⟩, -⟩ := id HU.out)
          go_meet
          have hs2 := HG2.out.size
          have ba := (Below.refl w2.heap.size w2).alloc (Nat.le_refl _) (.cells #[.int .i64 (a.kind : Int), .string a.text, .slice PA a.pairs.length pc, .slice IA a.items.length ic, .int .i64 a.re, .int .i64 a.im] 27)
          exact ⟨_, PA, pc, IA, ic, rfl, by omega, by omega, Lib.hid (heap_alloc_new _ _), Lib.hid (HU.out.below ba), Lib.hid (HR2.out.keep ba), Lib.hid (keep_block ba (only_block HG2.out HZ.out (by omega))), Lib.hid ((only_to_below HB.out HG2.out (by omega) (by omega)).alloc (by omega) _)⟩
        case rest =>
          obtain ⟨B, PA, pc, IA, ic, rfl, hB, hgB, HY, HA, HR2, HZ, HB⟩ := hcut
          obtain ⟨q0, q1, r0, r1⟩ := HR2.out.cells
          obtain ⟨d0, d1, d2, d3, d4, d5⟩ := facts6 HZ.out
          obtain ⟨f0, f1, f2, f3, f4, f5⟩ := free6 HZ.out
          obtain ⟨e0, e1, e2, e3, e4, e5⟩ := facts6 HY.out
          have hu := Tryd.underlying25
          have hzz := lt_of_block HZ.out
          cases b1
          · by_cases hsz : s1.size = 0
            · have hm : decide ((0 : Int) < (s1.size : Int)) = false := by rw [decide_eq_false_iff_not]; omega
              by_cases hra : RightV a
              · have HRA := Lib.hid hra
                have HV := Lib.hid (show loadV s = (a, 0) by rw [HV.out, if_pos ⟨rfl, hsz, hra⟩])
                clear hra
                go_wp2_with (go_at_call 18; refine Calls.mono (right_yes _ _ _ (HA.out.below ?_) HRA.out) ?_; (focus ((repeat (first | exact Below.refl _ _ | (refine Below.drew ?_) | (refine Go.below_drewN ?_ _) | (refine Below.alloc ?_ (by first | (simp; done) | omega | (simp; omega)) _) | (refine Below.setCell ?_ (by first | (simp; done) | omega | (simp; omega)) _) | (refine Below.trans ?_ (Below.mono (by assumption) (by first | (simp; done) | omega | (simp; omega)))))); done)); rintro e w3 ⟨rfl, hb3⟩; have HZ3 := Lib.hid (keep_block hb3 HZ.out); obtain ⟨d0, d1, d2, d3, d4, d5⟩ := facts6 HZ3.out; obtain ⟨f0, f1, f2, f3, f4, f5⟩ := free6 HZ3.out; have HY3 := Lib.hid (keep_block hb3 HY.out); obtain ⟨e0, e1, e2, e3, e4, e5⟩ := facts6 HY3.out)
                refine end6 (u := .int .i64 0) Tryd.results15 ?_ ?_ (set6 _ _ _ _ _ _ HZ3.out) ?_
                · rfl
                · rfl
                · exact load_good HV.out (vrd_over HZ3.out (HA.out.below hb3) HRA.out) (below_s6 (HB.out.trans (hb3.mono (by omega))) (Nat.le_refl _))
              · have HRA := Lib.hid hra
                have HV := Lib.hid (show loadV s = (zeroV, 100) by rw [HV.out, if_neg (fun h => hra h.2.2)])
                clear hra
                go_wp2_with (go_at_call 18; refine Calls.mono (right_no _ _ _ (HA.out.below ?_) HRA.out) ?_; (focus ((repeat (first | exact Below.refl _ _ | (refine Below.drew ?_) | (refine Go.below_drewN ?_ _) | (refine Below.alloc ?_ (by first | (simp; done) | omega | (simp; omega)) _) | (refine Below.setCell ?_ (by first | (simp; done) | omega | (simp; omega)) _) | (refine Below.trans ?_ (Below.mono (by assumption) (by first | (simp; done) | omega | (simp; omega)))))); done)); rintro e w3 ⟨rfl, hb3⟩; have HZ3 := Lib.hid (keep_block hb3 HZ.out); obtain ⟨d0, d1, d2, d3, d4, d5⟩ := facts6 HZ3.out; obtain ⟨f0, f1, f2, f3, f4, f5⟩ := free6 HZ3.out)
                refine end6 (u := .int .i64 100) Tryd.results15 ?_ ?_ (set6 _ _ _ _ _ _ HZ3.out) ?_
                · rfl
                · rfl
                · exact load_zero HV.out (below_s6 (HB.out.trans (hb3.mono (by omega))) (Nat.le_refl _))
            · have hm : decide ((0 : Int) < (s1.size : Int)) = true := by rw [decide_eq_true_iff]; omega
              have HV := Lib.hid (show loadV s = (zeroV, 100) by rw [HV.out, if_neg (fun h => hsz h.2.1)])
              go_wp2
              refine end6 (u := .int .i64 100) Tryd.results15 ?_ ?_ (set6 _ _ _ _ _ _ HZ.out) ?_
              · rfl
              · rfl
              · exact load_zero HV.out (below_s6 HB.out (Nat.le_refl _))
          · have HV := Lib.hid (show loadV s = (zeroV, 100) by rw [HV.out, if_neg (fun h => by cases h.1)])
            go_wp2
            refine end6 (u := .int .i64 100) Tryd.results15 ?_ ?_ (set6 _ _ _ _ _ _ HZ.out) ?_
            · rfl
            · rfl
            · exact load_zero HV.out (below_s6 HB.out (Nat.le_refl _))
/-- value.Load -/
theorem load_is (s : ByteArray) (w : World) (hs : s.size ≤ maxLen) (hh : Hv w) : Calls Tryd.prog 15 #[.string s] w (LoadOut s w) := by
  by_cases h : s.size < 3
  · exact load_short s w h
  · exact load_big s w h hs hh
end Go.Proofs.YtdpgkihecpjijaaDoor.T
