import Derived.Test.YtdpgkihecpjijaaDoorVk
import Derived.Test.YtdpgkihecpjijaaDoorVl
import Derived.Test.YtdpgkihecpjijaaDoorVm
import Derived.Test.YtdpgkihecpjijaaDoorVn
import Derived.Test.YtdpgkihecpjijaaDoorVo
import Derived.Test.YtdpgkihecpjijaaDoorVp
import Derived.Test.YtdpgkihecpjijaaDoorVq
import Derived.Test.YtdpgkihecpjijaaDoorVr
import Derived.WalkKit
import Derived.Outline
import Derived.WalkLawsBesides
import Derived.Deep.QuietTactic
import Derived.BigQuiet
import Derived.Lib.Hide
import Derived.Handy
import Derived.Deep.RegionHeld3
import Derived.Deep.DrawnRows
import Derived.KernelRfl
import Derived.Sort.Walk0
import Derived.Great.Walk
import Derived.Test.YtdpgkihecpjijaaDoorOwn
namespace Go.Proofs.YtdpgkihecpjijaaDoor.T
open Go Go.RowKit Mem Own
set_option maxRecDepth 100000
set_option maxHeartbeats 1000000
set_option linter.unusedVariables false
set_option linter.unusedSimpArgs false

/-- reader.value, other -/
theorem rv_other (g k : Nat) (s s1 : ByteArray) (bad b1 : Bool) (w : World) (h : Rdr w g s bad) (hs : s.size ≤ maxLen) (hr : rdNum 1 s bad = (k, s1, b1)) (h5 : k ≠ 1 ∧ k ≠ 2 ∧ k ≠ 3 ∧ k ≠ 4 ∧ k ≠ 5) :
    Calls Tryd.prog 33 #[.pointer (some ⟨g, 0, none⟩)] w (ValOut g (rdVal s bad) w) := by
  have hgl := lt_of_block h
  have H := Lib.hid h; have HRD := Lib.hid hr
  have hs1 : s1.size ≤ maxLen := Nat.le_trans (rdNum_left hr) hs
  unfold rdVal
  rw [hr]
  dsimp only
  have HV := Lib.hid (show rdBody k s1 b1 = (⟨k, ⟨#[]⟩, [], [], 0, 0⟩, (s1, b1)) by unfold rdBody; simp [h5])
  have m1 : ((k : Int) == 1) = false := by simp; omega
  have m2 : ((k : Int) == 2) = false := by simp; omega
  have m3 : ((k : Int) == 3) = false := by simp; omega
  have m4 : ((k : Int) == 4) = false := by simp; omega
  have m5 : ((k : Int) == 5) = false := by simp; omega
  rw [HV.out]
  clear h5
  clear h hr
  have hu := Tryd.underlying25
  go_enter Tryd.func33, Tryd.ntmps33
  go_upto_region 1 with fail
  go_cut [3] (fun s3 wx => ∃ b3 : Nat, s3 = .pointer (some ⟨b3, 0, none⟩) ∧ w.heap.size < b3 ∧ RowKit.Hid (wx.heap[w.heap.size]? = some (.cells #[.int .i64 0, .string ⟨#[]⟩, .slice none 0 0, .slice none 0 0, .int .i64 0, .int .i64 0] 27 (0, 0))) ∧ RowKit.Hid (wx.heap[b3]? = some (.cells #[.int .i64 (k : Int), .string ⟨#[]⟩, .slice none 0 0, .slice none 0 0, .int .i64 0, .int .i64 0] 27 (0, 0))) ∧ RowKit.Hid (Rdr wx g s1 b1) ∧ RowKit.Hid (w.grownBy wx (some g)))
  case first =>
    go_wp2_with (go_at_call 56; refine Calls.mono (rnum_as g 1 s bad _ _ _ HRD.out _ (H.out.keep ((Below.refl _ _).alloc (Nat.le_refl _) _)) hs (by decide)) ?_; rintro e w1 ⟨rfl, HR, HO⟩)
    go_meet
    exact rv_first hgl HR HO
  case rest =>
    obtain ⟨b3, rfl, hb3, HZ, HY, HR, HG⟩ := hcut
    obtain ⟨d0, d1, d2, d3, d4, d5⟩ := facts6 HY.out
    obtain ⟨e0, e1, e2, e3, e4, e5⟩ := facts6 HZ.out
    obtain ⟨f0, f1, f2, f3, f4, f5⟩ := free6 HZ.out
    go_wp2
    refine end61 Tryd.results33 ?_ (set6 _ _ _ _ _ _ HZ.out) ?_
    · rfl
    · exact rv_out (a := ⟨k, ⟨#[]⟩, [], [], 0, 0⟩) (PA := none) (pc := 0) (IA := none) (ic := 0) hgl HR.out HG.out (.inl rfl) (.inl rfl) (fun _ _ h => by cases h) (fun _ _ h => by cases h) (Nat.zero_le _) (Nat.zero_le _) (Nat.zero_le _) (fun _ h => by cases h) (fun _ h => by cases h)
/-- reader.value, text -/
theorem rv_text (g k : Nat) (s s1 : ByteArray) (bad b1 : Bool) (w : World) (h : Rdr w g s bad) (hs : s.size ≤ maxLen) (hr : rdNum 1 s bad = (k, s1, b1)) (hk : k = 1) :
    Calls Tryd.prog 33 #[.pointer (some ⟨g, 0, none⟩)] w (ValOut g (rdVal s bad) w) := by
  have hgl := lt_of_block h
  have H := Lib.hid h; have HRD := Lib.hid hr
  have hs1 : s1.size ≤ maxLen := Nat.le_trans (rdNum_left hr) hs
  unfold rdVal
  rw [hr]
  dsimp only
  subst hk
  generalize hx : rdTxt s1 b1 = r2
  obtain ⟨x, s2, b2⟩ := r2
  have HV := Lib.hid (show rdBody 1 s1 b1 = (⟨1, x, [], [], 0, 0⟩, (s2, b2)) by simp [rdBody, hx])
  have hxl := Nat.le_trans (rdTxt_left hx).2 hs1
  have HX := Lib.hid hx
  rw [HV.out]
  clear hx
  clear h hr
  have hu := Tryd.underlying25
  go_enter Tryd.func33, Tryd.ntmps33
  go_upto_region 1 with fail
  go_cut [3] (fun s3 wx => ∃ b3 : Nat, s3 = .pointer (some ⟨b3, 0, none⟩) ∧ w.heap.size < b3 ∧ RowKit.Hid (wx.heap[w.heap.size]? = some (.cells #[.int .i64 0, .string ⟨#[]⟩, .slice none 0 0, .slice none 0 0, .int .i64 0, .int .i64 0] 27 (0, 0))) ∧ RowKit.Hid (wx.heap[b3]? = some (.cells #[.int .i64 1, .string ⟨#[]⟩, .slice none 0 0, .slice none 0 0, .int .i64 0, .int .i64 0] 27 (0, 0))) ∧ RowKit.Hid (Rdr wx g s1 b1) ∧ RowKit.Hid (w.grownBy wx (some g)))
  case first =>
    go_wp2_with (go_at_call 56; refine Calls.mono (rnum_as g 1 s bad _ _ _ HRD.out _ (H.out.keep ((Below.refl _ _).alloc (Nat.le_refl _) _)) hs (by decide)) ?_; rintro e w1 ⟨rfl, HR, HO⟩)
    go_meet
    exact rv_first hgl HR HO
  case rest =>
    obtain ⟨b3, rfl, hb3, HZ, HY, HR, HG⟩ := hcut
    obtain ⟨d0, d1, d2, d3, d4, d5⟩ := facts6 HY.out
    obtain ⟨e0, e1, e2, e3, e4, e5⟩ := facts6 HZ.out
    obtain ⟨f0, f1, f2, f3, f4, f5⟩ := free6 HZ.out
    go_wp2_with (go_at_call 57; refine Calls.mono (rtext_as g s1 b1 _ _ _ HX.out _ HR.out hs1) ?_; rintro e w2 ⟨rfl, HR2, HO2⟩; have HY2 := Lib.hid (only_block HO2.out HY.out (by omega)); obtain ⟨d0, d1, d2, d3, d4, d5⟩ := facts6 HY2.out; obtain ⟨q0, q1, q2, q3, q4, q5⟩ := free6 HY2.out; have HZ2 := Lib.hid (only_block HO2.out HZ.out (by omega)); obtain ⟨e0, e1, e2, e3, e4, e5⟩ := facts6 HZ2.out; obtain ⟨f0, f1, f2, f3, f4, f5⟩ := free6 HZ2.out)
    refine end61 Tryd.results33 ?_ (set6 _ _ _ _ _ _ (blk_other (by omega) HZ2.out)) ?_
    · rfl
    · exact rv_out (a := ⟨1, x, [], [], 0, 0⟩) hgl (blk_other (by omega) HR2.out) (only_new (only_trans HG.out HO2.out) (by omega) _) (.inl rfl) (.inl rfl) (fun _ _ h => by cases h) (fun _ _ h => by cases h) (Nat.zero_le _) (Nat.zero_le _) hxl (fun _ h => by cases h) (fun _ h => by cases h)
/-- reader.value, point -/
theorem rv_point (g k : Nat) (s s1 : ByteArray) (bad b1 : Bool) (w : World) (h : Rdr w g s bad) (hs : s.size ≤ maxLen) (hr : rdNum 1 s bad = (k, s1, b1)) (hk : k = 5) :
    Calls Tryd.prog 33 #[.pointer (some ⟨g, 0, none⟩)] w (ValOut g (rdVal s bad) w) := by
  have hgl := lt_of_block h
  have H := Lib.hid h; have HRD := Lib.hid hr
  have hs1 : s1.size ≤ maxLen := Nat.le_trans (rdNum_left hr) hs
  unfold rdVal
  rw [hr]
  dsimp only
  subst hk
  generalize hx : rdNum 4 s1 b1 = r2
  obtain ⟨x, s2, b2⟩ := r2
  generalize hy : rdNum 4 s2 b2 = r3
  obtain ⟨y, s3, b3'⟩ := r3
  have HV := Lib.hid (show rdBody 5 s1 b1 = (⟨5, ⟨#[]⟩, [], [], sgn x, sgn y⟩, (s3, b3')) by simp [rdBody, hx, hy])
  have hs2 := Nat.le_trans (rdNum_left hx) hs1
  have HX := Lib.hid hx; have HYn := Lib.hid hy
  rw [HV.out]
  clear hx hy
  clear h hr
  have hu := Tryd.underlying25
  go_enter Tryd.func33, Tryd.ntmps33
  go_upto_region 1 with fail
  go_cut [3] (fun s3 wx => ∃ b3 : Nat, s3 = .pointer (some ⟨b3, 0, none⟩) ∧ w.heap.size < b3 ∧ RowKit.Hid (wx.heap[w.heap.size]? = some (.cells #[.int .i64 0, .string ⟨#[]⟩, .slice none 0 0, .slice none 0 0, .int .i64 0, .int .i64 0] 27 (0, 0))) ∧ RowKit.Hid (wx.heap[b3]? = some (.cells #[.int .i64 5, .string ⟨#[]⟩, .slice none 0 0, .slice none 0 0, .int .i64 0, .int .i64 0] 27 (0, 0))) ∧ RowKit.Hid (Rdr wx g s1 b1) ∧ RowKit.Hid (w.grownBy wx (some g)))
  case first =>
    go_wp2_with (go_at_call 56; refine Calls.mono (rnum_as g 1 s bad _ _ _ HRD.out _ (H.out.keep ((Below.refl _ _).alloc (Nat.le_refl _) _)) hs (by decide)) ?_; rintro e w1 ⟨rfl, HR, HO⟩)
    go_meet
    exact rv_first hgl HR HO
  case rest =>
    obtain ⟨b3, rfl, hb3, HZ, HY, HR, HG⟩ := hcut
    obtain ⟨d0, d1, d2, d3, d4, d5⟩ := facts6 HY.out
    obtain ⟨e0, e1, e2, e3, e4, e5⟩ := facts6 HZ.out
    obtain ⟨f0, f1, f2, f3, f4, f5⟩ := free6 HZ.out
    go_wp2_with fail
    refine Calls.mono (rnum_as g 4 s1 b1 _ _ _ HX.out _ HR.out hs1 (by decide)) ?_
    rintro e w2 ⟨rfl, HR2, HO2⟩
    go_wp2_with fail
    refine Calls.mono (rnum_as g 4 s2 b2 _ _ _ HYn.out _ HR2.out hs2 (by decide)) ?_
    rintro e w3 ⟨rfl, HR3, HO3⟩
    have HO23 := Lib.hid (only_trans HO2.out HO3.out)
    have HY2 := Lib.hid (only_block HO23.out HY.out (by omega)); obtain ⟨d0, d1, d2, d3, d4, d5⟩ := facts6 HY2.out; obtain ⟨q0, q1, q2, q3, q4, q5⟩ := free6 HY2.out; have HZ2 := Lib.hid (only_block HO23.out HZ.out (by omega)); obtain ⟨e0, e1, e2, e3, e4, e5⟩ := facts6 HZ2.out; obtain ⟨f0, f1, f2, f3, f4, f5⟩ := free6 HZ2.out
    go_wp2
    refine end61 Tryd.results33 ?_ (set6 _ _ _ _ _ _ (blk_other (by omega) (blk_other (by omega) HZ2.out))) ?_
    · rfl
    · refine rv_out (a := ⟨5, ⟨#[]⟩, [], [], sgn x, sgn y⟩) (PA := none) (pc := 0) (IA := none) (ic := 0) (wc := (w3.setCell ⟨b3, 4, none⟩ (.int .i64 (sgn x))).setCell ⟨b3, 5, none⟩ (.int .i64 (sgn y))) hgl ?_ ?_ (.inl rfl) (.inl rfl) (fun _ _ h => by cases h) (fun _ _ h => by cases h) (Nat.zero_le _) (Nat.zero_le _) (Nat.zero_le _) (fun _ h => by cases h) (fun _ h => by cases h)
      · exact blk_other (by omega) (blk_other (by omega) HR3.out)
      · exact only_new (only_new (only_trans HG.out HO23.out) (by omega) _) (by omega) _
end Go.Proofs.YtdpgkihecpjijaaDoor.T
