import Derived.Test.YtdpgkihecpjijaaDoorVk
import Derived.Test.YtdpgkihecpjijaaDoorVl
import Derived.Test.YtdpgkihecpjijaaDoorVm
import Derived.Test.YtdpgkihecpjijaaDoorVn
import Derived.Test.YtdpgkihecpjijaaDoorVo
import Derived.Test.YtdpgkihecpjijaaDoorVp
import Derived.Test.YtdpgkihecpjijaaDoorVq
import Derived.Test.YtdpgkihecpjijaaDoorVr
import Derived.Test.YtdpgkihecpjijaaDoorVs
import Derived.Deep.AppendLies
import Derived.Deep.RegionLaw
import Derived.WalkKit
import Derived.Outline
import Derived.WalkLawsBesides
import Derived.Deep.QuietTactic
import Derived.BigQuiet
import Derived.Lib.Hide
import Derived.Handy
import Derived.Deep.RegionHeld3
import Derived.Deep.DrawnRows
import Derived.KernelRfl
import Derived.Sort.Walk0
import Derived.Great.Walk
import Derived.Test.YtdpgkihecpjijaaDoorOwn
namespace Go.Proofs.YtdpgkihecpjijaaDoor.T
open Go Go.RowKit Mem Own
set_option maxRecDepth 100000
set_option maxHeartbeats 1000000
set_option linter.unusedVariables false
set_option linter.unusedSimpArgs false

theorem info9 : (Tryd.prog.info? 9).map (fun i => (i.zero, i.size, i.bytes)) = some (some (.string ByteArray.empty), 1, 16) := by kernel_rfl
theorem rdIs_succ (s : ByteArray) (bad : Bool) (j : Nat) {l : List ByteArray} {t : ByteArray} {b : Bool} (h : rdIs s bad j = (l, t, b)) {x t' : ByteArray} {b' : Bool} (hx : rdTxt t b = (x, t', b')) : rdIs s bad (j + 1) = (l ++ [x], t', b') := by
  conv => lhs; unfold rdIs
  simp only [h, hx]
theorem own_blk {w w' : World} {B n : Nat} {v : Value} {l : List ByteArray} {g : Nat} (h : w.ownsRow B 9 1 v n (vs l)) (hg : w.grownBy w' (some g)) (hne : g < B) : w'.ownsRow B 9 1 v n (vs l) :=
  h.kept hg (by
    cases hv : v.ownBlock with
    | none => exact .inl rfl
    | some k => right; intro e; injection e with e; have := (h.lt k hv).1; omega)
theorem own_push {w5 : World} {B n b : Nat} {v : Value} {xs : List Value} (h : w5.ownsRow B 9 1 v n xs) (hb : b < B) (u : Value) {i : Nat} : (w5.setCell ⟨b, i, none⟩ u).ownsRow B 9 1 v n xs :=
  h.kept (only_set w5 b i u) (by
    cases hv : v.ownBlock with
    | none => exact .inl rfl
    | some k => right; intro e; injection e with e; have := (h.lt k hv).1; omega)
theorem grown_blk {w wa w5 : World} {B n b : Nat} {v : Value} {xs : List Value} {o : Obj} (h : w.ownsRow B 9 1 v n xs) (hg : wa.grownBy w5 v.ownBlock) (hb : wa.heap[b]? = some o) (hlt : b < B) : w5.heap[b]? = some o := by
  rw [hg.block b (lt_of_block hb) (fun e => by have := (h.lt b e.symm).1; omega)]; exact hb
theorem grown_only {w wa w5 : World} {B n g : Nat} {v : Value} {xs : List Value} {w0 : World} (h : w.ownsRow B 9 1 v n xs) (hg : wa.grownBy w5 v.ownBlock) (h0 : w0.grownBy wa (some g)) (hB : w0.heap.size ≤ B) : w0.grownBy w5 (some g) :=
  ⟨hg.os.trans h0.os, hg.tape.trans h0.tape, hg.output.trans h0.output, Nat.le_trans h0.size hg.size, fun k hk hne => (hg.block k (Nat.lt_of_lt_of_le hk h0.size) (fun e => by have := (h.lt k e.symm).1; omega)).trans (h0.block k hk hne)⟩
theorem only_drew {w w' : World} {r : Option Nat} (h : w.grownBy w' r) : w.grownBy w'.drew r := ⟨h.os, h.tape, h.output, h.size, h.block⟩
theorem set_size (w : World) (a : Addr) (v : Value) : (w.setCell a v).heap.size = w.heap.size := by simp [World.setCell]
/-- reader.value, list -/
theorem rv_list (g k : Nat) (s s1 : ByteArray) (bad b1 : Bool) (w : World) (h : Rdr w g s bad) (hs : s.size ≤ maxLen) (hr : rdNum 1 s bad = (k, s1, b1)) (hk : k = 3) :
    Calls Tryd.prog 33 #[.pointer (some ⟨g, 0, none⟩)] w (ValOut g (rdVal s bad) w) := by
  have hgl := lt_of_block h
  have H := Lib.hid h; have HRD := Lib.hid hr
  have hs1 : s1.size ≤ maxLen := Nat.le_trans (rdNum_left hr) hs
  unfold rdVal
  rw [hr]
  dsimp only
  subst hk
  generalize hc : rdCnt s1 b1 = r2
  obtain ⟨n, s2, b2⟩ := r2
  have hn := (rdCnt_left hc).2
  have hs2 := Nat.le_trans (rdCnt_left hc).1 hs1
  generalize hi : rdIs s2 b2 n = r3
  obtain ⟨is, s3, b3'⟩ := r3
  have HV := Lib.hid (show rdBody 3 s1 b1 = (⟨3, ⟨#[]⟩, [], is, 0, 0⟩, (s3, b3')) by simp [rdBody, hc, hi])
  have HC := Lib.hid hc; have HIS := Lib.hid hi; have HS2 := Lib.hid hs2
  rw [HV.out]
  obtain ⟨i0, hi, hz0, hz1, hz2⟩ := info_parts info9
  clear hc hs2
  clear h hr
  have hu := Tryd.underlying25
  go_enter Tryd.func33, Tryd.ntmps33
  go_upto_region 1 with fail
  go_cut [3] (fun s3 wx => ∃ b3 : Nat, s3 = .pointer (some ⟨b3, 0, none⟩) ∧ w.heap.size < b3 ∧ RowKit.Hid (wx.heap[w.heap.size]? = some (.cells #[.int .i64 0, .string ⟨#[]⟩, .slice none 0 0, .slice none 0 0, .int .i64 0, .int .i64 0] 27 (0, 0))) ∧ RowKit.Hid (wx.heap[b3]? = some (.cells #[.int .i64 3, .string ⟨#[]⟩, .slice none 0 0, .slice none 0 0, .int .i64 0, .int .i64 0] 27 (0, 0))) ∧ RowKit.Hid (Rdr wx g s1 b1) ∧ RowKit.Hid (w.grownBy wx (some g)))
  case first =>
    go_wp2_with (go_at_call 56; refine Calls.mono (rnum_as g 1 s bad _ _ _ HRD.out _ (H.out.keep ((Below.refl _ _).alloc (Nat.le_refl _) _)) hs (by decide)) ?_; rintro e w1 ⟨rfl, HR, HO⟩)
    go_meet
    exact rv_first hgl HR HO
  case rest =>
    obtain ⟨b3, rfl, hb3, HZ, HY, HR, HG⟩ := hcut
    obtain ⟨d0, d1, d2, d3, d4, d5⟩ := facts6 HY.out
    obtain ⟨e0, e1, e2, e3, e4, e5⟩ := facts6 HZ.out
    obtain ⟨f0, f1, f2, f3, f4, f5⟩ := free6 HZ.out
    go_wp2_with (go_at_call 58; refine Calls.mono (rcount_as g s1 b1 _ _ _ HC.out _ HR.out hs1) ?_; rintro e w2 ⟨rfl, HR2, HO2⟩)
    have HY2 := Lib.hid (only_block HO2.out HY.out (by omega))
    have HZ2 := Lib.hid (only_block HO2.out HZ.out (by omega))
    have HG2 := Lib.hid (only_trans HG.out HO2.out)
    have hb32 := lt_of_block HY2.out
    go_loopw [42] (fun x wr => ∃ (j : Nat) (v0 : Value) (l : List ByteArray) (t : ByteArray) (b : Bool), j ≤ n ∧ x = .int .i64 j ∧ t.size ≤ maxLen ∧ RowKit.Hid (rdIs s2 b2 j = (l, t, b)) ∧ RowKit.Hid (∀ y ∈ l, y.size ≤ maxLen) ∧ RowKit.Hid (Rdr wr g t b) ∧ RowKit.Hid (wr.ownsRow w2.heap.size 9 1 v0 j (vs l)) ∧ RowKit.Hid (wr.heap[b3]? = some (.cells #[.int .i64 3, .string ⟨#[]⟩, .slice none 0 0, v0, .int .i64 0, .int .i64 0] 27 (0, 0))) ∧ RowKit.Hid (wr.heap[w.heap.size]? = some (.cells #[.int .i64 0, .string ⟨#[]⟩, .slice none 0 0, .slice none 0 0, .int .i64 0, .int .i64 0] 27 (0, 0))) ∧ RowKit.Hid (w.grownBy wr (some g)) ∧ w2.heap.size ≤ wr.heap.size) (fun x _ => n - (intOf x).toNat)
    case atStart => exact ⟨0, _, [], s2, b2, Nat.zero_le _, rfl, HS2.out, Lib.hid rfl, Lib.hid (fun _ h => by cases h), HR2, Lib.hid (World.ownsRow_nil _ _ _ _), HY2, HZ2, HG2, Nat.le_refl _⟩
    case round =>
      obtain ⟨j, v0, l, t, b, hj, rfl, ht, HL, HSz, HRr, HOr, HYr, HZr, HGr, hzr⟩ := hrel
      obtain ⟨d0, d1, d2, d3, d4, d5⟩ := facts6 HYr.out
      obtain ⟨q0, q1, q2, q3, q4, q5⟩ := free6 HYr.out
      by_cases hlt : j < n
      · generalize hx : rdTxt t b = rx
        obtain ⟨x, t', b'⟩ := rx
        have HX := Lib.hid hx
        have hxl := rdTxt_left hx
        clear hx
        have hgB : g < w2.heap.size := by have := HG2.out.size; omega
        go_wp2_with fail
        go_region_law
          (first
            | (refine step_append_lies _ (by rfl) _ _ _ (by rfl) w2.heap.size 9 i0 _ 1 16 Tryd.underlying23 hi hz0 hz1 hz2 rfl (by omega) v0 j (vs l) (by rfl) (by exact (HOw.out.alloc _)) ⟨w4.heap.size, 0, none⟩ 1 1 [.string x] (by rfl) (by rfl) (World.news_of_block (cs := #[.string x]) (t := 9) (fr := (0, 0)) (heap_alloc_new w4 _)) (by simp [Value.oneCell']) (by omega) (by unfold maxLen; omega) (by omega) (by simp; omega) (w4.heap.size + 1) (by simp) ?_; intro gg cap w5 hown1 hgrow hat hlt'; have HY5 := Lib.hid (grown_blk HOw.out hgrow (by exact (keep_block ((Below.refl _ _).alloc (Nat.le_refl _) _) HY4.out)) hb32); obtain ⟨d0, d1, d2, d3, d4, d5⟩ := facts6 HY5.out; obtain ⟨q0, q1, q2, q3, q4, q5⟩ := free6 HY5.out; have HGW := Lib.hid hgrow; have HO5 := Lib.hid hown1; clear hgrow hown1 hat)
            | (go_simp; go_at_call 57; refine Calls.mono (rtext_as g t b _ _ _ HX.out _ (by exact HRr.out) ht) ?_; rintro e w4 ⟨rfl, HR4, HO4⟩; have HY4 := Lib.hid (only_block HO4.out (by exact HYr.out) (by omega)); obtain ⟨d0, d1, d2, d3, d4, d5⟩ := facts6 HY4.out; have hz4 := HO4.out.size; (try simp at hz4); have hb34 : b3 < w4.heap.size := (by omega); have HOw := Lib.hid (own_blk (by exact HOr.out) HO4.out hgB); (try go_simp)))
        all_goals
          go_wp2_with fail
          have hz5 := HGW.out.size
          rw [alloc_size] at hz5
          have hzw := HGr.out.size
          have n1 : b3 ≠ g := by omega
          have hRe : Rdr (w5.setCell ⟨b3, 3, none⟩ (.slice (some ⟨gg, 0, none⟩) (j + 1) cap)) g t' b' := blk_other (by omega) (grown_blk HOw.out HGW.out (keep_block ((Below.refl _ _).alloc (Nat.le_refl _) _) HR4.out) hgB)
          have hOe := push_row (own_push (i := 3) HO5.out hb32 (.slice (some ⟨gg, 0, none⟩) (j + 1) cap))
          have hYe : (w5.setCell ⟨b3, 3, none⟩ (.slice (some ⟨gg, 0, none⟩) (j + 1) cap)).heap[b3]? = some (.cells #[.int .i64 3, .string ⟨#[]⟩, .slice none 0 0, .slice (some ⟨gg, 0, none⟩) (j + 1) cap, .int .i64 0, .int .i64 0] 27 (0, 0)) := by
            have := heap_set (i := 3) HY5.out (.slice (some ⟨gg, 0, none⟩) (j + 1) cap); simpa using this
          have hZe : (w5.setCell ⟨b3, 3, none⟩ (.slice (some ⟨gg, 0, none⟩) (j + 1) cap)).heap[w.heap.size]? = some (.cells #[.int .i64 0, .string ⟨#[]⟩, .slice none 0 0, .slice none 0 0, .int .i64 0, .int .i64 0] 27 (0, 0)) :=
            blk_other (by omega) (grown_blk HOw.out HGW.out (keep_block ((Below.refl _ _).alloc (Nat.le_refl _) _) (only_block HO4.out (by exact HZr.out) (by omega))) (by omega))
          have hGe : w.grownBy (w5.setCell ⟨b3, 3, none⟩ (.slice (some ⟨gg, 0, none⟩) (j + 1) cap)) (some g) := only_new (grown_only HOw.out HGW.out (only_alloc (only_trans (only_drew HGr.out) HO4.out) _) (by omega)) (by omega) _
          exact ⟨⟨j + 1, _, l ++ [x], t', b', by omega, by go_num, by omega, Lib.hid (rdIs_succ _ _ _ HL.out HX.out), Lib.hid (fun y hy => (List.mem_append.1 hy).elim (HSz.out y) (fun h => by rw [List.mem_singleton.1 h]; omega)), Lib.hid hRe, Lib.hid hOe, Lib.hid hYe, Lib.hid hZe, Lib.hid hGe, by rw [set_size]; omega⟩, by simp [intOf]; omega⟩
      · have hjn : j = n := by omega
        subst hjn
        have hl := HL.out
        rw [HIS.out] at hl
        injection hl with e1 e2
        injection e2 with e2 e3
        subst e1 e2 e3
        obtain ⟨A, cp, rfl⟩ := own_slice HOr.out
        have hln := Lib.hid (own_len HOr.out)
        obtain ⟨e0, e1, e2, e3, e4, e5⟩ := facts6 HZr.out
        obtain ⟨f0, f1, f2, f3, f4, f5⟩ := free6 HZr.out
        go_wp2
        refine end61 Tryd.results33 ?_ (set6 _ _ _ _ _ _ HZr.out) ?_
        · rfl
        · have hor := HOr.out
          have hln' := hln.out
          subst hln'
          exact rv_out (a := ⟨3, ⟨#[]⟩, [], is, 0, 0⟩) (PA := none) (pc := 0) (IA := A) (ic := cp) hgl HRr.out HGr.out (.inl rfl) (own_rd hor).1 (fun _ _ h => by cases h) (fun b' off h => by have := (hor.lt b' (by rw [h]; rfl)).1; omega) (Nat.zero_le _) (by show is.length ≤ maxLen; unfold maxLen; omega) (Nat.zero_le _) (fun _ h => by cases h) HSz.out
/-- reader.value, set -/
theorem rv_set (g k : Nat) (s s1 : ByteArray) (bad b1 : Bool) (w : World) (h : Rdr w g s bad) (hs : s.size ≤ maxLen) (hr : rdNum 1 s bad = (k, s1, b1)) (hk : k = 4) :
    Calls Tryd.prog 33 #[.pointer (some ⟨g, 0, none⟩)] w (ValOut g (rdVal s bad) w) := by
  have hgl := lt_of_block h
  have H := Lib.hid h; have HRD := Lib.hid hr
  have hs1 : s1.size ≤ maxLen := Nat.le_trans (rdNum_left hr) hs
  unfold rdVal
  rw [hr]
  dsimp only
  subst hk
  generalize hc : rdCnt s1 b1 = r2
  obtain ⟨n, s2, b2⟩ := r2
  have hn := (rdCnt_left hc).2
  have hs2 := Nat.le_trans (rdCnt_left hc).1 hs1
  generalize hi : rdIs s2 b2 n = r3
  obtain ⟨is, s3, b3'⟩ := r3
  have HV := Lib.hid (show rdBody 4 s1 b1 = (⟨4, ⟨#[]⟩, [], is, 0, 0⟩, (s3, b3')) by simp [rdBody, hc, hi])
  have HC := Lib.hid hc; have HIS := Lib.hid hi; have HS2 := Lib.hid hs2
  rw [HV.out]
  obtain ⟨i0, hi, hz0, hz1, hz2⟩ := info_parts info9
  clear hc hs2
  clear h hr
  have hu := Tryd.underlying25
  go_enter Tryd.func33, Tryd.ntmps33
  go_upto_region 1 with fail
  go_cut [3] (fun s3 wx => ∃ b3 : Nat, s3 = .pointer (some ⟨b3, 0, none⟩) ∧ w.heap.size < b3 ∧ RowKit.Hid (wx.heap[w.heap.size]? = some (.cells #[.int .i64 0, .string ⟨#[]⟩, .slice none 0 0, .slice none 0 0, .int .i64 0, .int .i64 0] 27 (0, 0))) ∧ RowKit.Hid (wx.heap[b3]? = some (.cells #[.int .i64 4, .string ⟨#[]⟩, .slice none 0 0, .slice none 0 0, .int .i64 0, .int .i64 0] 27 (0, 0))) ∧ RowKit.Hid (Rdr wx g s1 b1) ∧ RowKit.Hid (w.grownBy wx (some g)))
  case first =>
    go_wp2_with (go_at_call 56; refine Calls.mono (rnum_as g 1 s bad _ _ _ HRD.out _ (H.out.keep ((Below.refl _ _).alloc (Nat.le_refl _) _)) hs (by decide)) ?_; rintro e w1 ⟨rfl, HR, HO⟩)
    go_meet
    exact rv_first hgl HR HO
  case rest =>
    obtain ⟨b3, rfl, hb3, HZ, HY, HR, HG⟩ := hcut
    obtain ⟨d0, d1, d2, d3, d4, d5⟩ := facts6 HY.out
    obtain ⟨e0, e1, e2, e3, e4, e5⟩ := facts6 HZ.out
    obtain ⟨f0, f1, f2, f3, f4, f5⟩ := free6 HZ.out
    go_wp2_with (go_at_call 58; refine Calls.mono (rcount_as g s1 b1 _ _ _ HC.out _ HR.out hs1) ?_; rintro e w2 ⟨rfl, HR2, HO2⟩)
    have HY2 := Lib.hid (only_block HO2.out HY.out (by omega))
    have HZ2 := Lib.hid (only_block HO2.out HZ.out (by omega))
    have HG2 := Lib.hid (only_trans HG.out HO2.out)
    have hb32 := lt_of_block HY2.out
    go_loopw [42] (fun x wr => ∃ (j : Nat) (v0 : Value) (l : List ByteArray) (t : ByteArray) (b : Bool), j ≤ n ∧ x = .int .i64 j ∧ t.size ≤ maxLen ∧ RowKit.Hid (rdIs s2 b2 j = (l, t, b)) ∧ RowKit.Hid (∀ y ∈ l, y.size ≤ maxLen) ∧ RowKit.Hid (Rdr wr g t b) ∧ RowKit.Hid (wr.ownsRow w2.heap.size 9 1 v0 j (vs l)) ∧ RowKit.Hid (wr.heap[b3]? = some (.cells #[.int .i64 4, .string ⟨#[]⟩, .slice none 0 0, v0, .int .i64 0, .int .i64 0] 27 (0, 0))) ∧ RowKit.Hid (wr.heap[w.heap.size]? = some (.cells #[.int .i64 0, .string ⟨#[]⟩, .slice none 0 0, .slice none 0 0, .int .i64 0, .int .i64 0] 27 (0, 0))) ∧ RowKit.Hid (w.grownBy wr (some g)) ∧ w2.heap.size ≤ wr.heap.size) (fun x _ => n - (intOf x).toNat)
    case atStart => exact ⟨0, _, [], s2, b2, Nat.zero_le _, rfl, HS2.out, Lib.hid rfl, Lib.hid (fun _ h => by cases h), HR2, Lib.hid (World.ownsRow_nil _ _ _ _), HY2, HZ2, HG2, Nat.le_refl _⟩
    case round =>
      obtain ⟨j, v0, l, t, b, hj, rfl, ht, HL, HSz, HRr, HOr, HYr, HZr, HGr, hzr⟩ := hrel
      obtain ⟨d0, d1, d2, d3, d4, d5⟩ := facts6 HYr.out
      obtain ⟨q0, q1, q2, q3, q4, q5⟩ := free6 HYr.out
      by_cases hlt : j < n
      · generalize hx : rdTxt t b = rx
        obtain ⟨x, t', b'⟩ := rx
        have HX := Lib.hid hx
        have hxl := rdTxt_left hx
        clear hx
        have hgB : g < w2.heap.size := by have := HG2.out.size; omega
        go_wp2_with fail
        go_region_law
          (first
            | (refine step_append_lies _ (by rfl) _ _ _ (by rfl) w2.heap.size 9 i0 _ 1 16 Tryd.underlying23 hi hz0 hz1 hz2 rfl (by omega) v0 j (vs l) (by rfl) (by exact (HOw.out.alloc _)) ⟨w4.heap.size, 0, none⟩ 1 1 [.string x] (by rfl) (by rfl) (World.news_of_block (cs := #[.string x]) (t := 9) (fr := (0, 0)) (heap_alloc_new w4 _)) (by simp [Value.oneCell']) (by omega) (by unfold maxLen; omega) (by omega) (by simp; omega) (w4.heap.size + 1) (by simp) ?_; intro gg cap w5 hown1 hgrow hat hlt'; have HY5 := Lib.hid (grown_blk HOw.out hgrow (by exact (keep_block ((Below.refl _ _).alloc (Nat.le_refl _) _) HY4.out)) hb32); obtain ⟨d0, d1, d2, d3, d4, d5⟩ := facts6 HY5.out; obtain ⟨q0, q1, q2, q3, q4, q5⟩ := free6 HY5.out; have HGW := Lib.hid hgrow; have HO5 := Lib.hid hown1; clear hgrow hown1 hat)
            | (go_simp; go_at_call 57; refine Calls.mono (rtext_as g t b _ _ _ HX.out _ (by exact HRr.out) ht) ?_; rintro e w4 ⟨rfl, HR4, HO4⟩; have HY4 := Lib.hid (only_block HO4.out (by exact HYr.out) (by omega)); obtain ⟨d0, d1, d2, d3, d4, d5⟩ := facts6 HY4.out; have hz4 := HO4.out.size; (try simp at hz4); have hb34 : b3 < w4.heap.size := (by omega); have HOw := Lib.hid (own_blk (by exact HOr.out) HO4.out hgB); (try go_simp)))
        all_goals
          go_wp2_with fail
          have hz5 := HGW.out.size
          rw [alloc_size] at hz5
          have hzw := HGr.out.size
          have n1 : b3 ≠ g := by omega
          have hRe : Rdr (w5.setCell ⟨b3, 3, none⟩ (.slice (some ⟨gg, 0, none⟩) (j + 1) cap)) g t' b' := blk_other (by omega) (grown_blk HOw.out HGW.out (keep_block ((Below.refl _ _).alloc (Nat.le_refl _) _) HR4.out) hgB)
          have hOe := push_row (own_push (i := 3) HO5.out hb32 (.slice (some ⟨gg, 0, none⟩) (j + 1) cap))
          have hYe : (w5.setCell ⟨b3, 3, none⟩ (.slice (some ⟨gg, 0, none⟩) (j + 1) cap)).heap[b3]? = some (.cells #[.int .i64 4, .string ⟨#[]⟩, .slice none 0 0, .slice (some ⟨gg, 0, none⟩) (j + 1) cap, .int .i64 0, .int .i64 0] 27 (0, 0)) := by
            have := heap_set (i := 3) HY5.out (.slice (some ⟨gg, 0, none⟩) (j + 1) cap); simpa using this
          have hZe : (w5.setCell ⟨b3, 3, none⟩ (.slice (some ⟨gg, 0, none⟩) (j + 1) cap)).heap[w.heap.size]? = some (.cells #[.int .i64 0, .string ⟨#[]⟩, .slice none 0 0, .slice none 0 0, .int .i64 0, .int .i64 0] 27 (0, 0)) :=
            blk_other (by omega) (grown_blk HOw.out HGW.out (keep_block ((Below.refl _ _).alloc (Nat.le_refl _) _) (only_block HO4.out (by exact HZr.out) (by omega))) (by omega))
          have hGe : w.grownBy (w5.setCell ⟨b3, 3, none⟩ (.slice (some ⟨gg, 0, none⟩) (j + 1) cap)) (some g) := only_new (grown_only HOw.out HGW.out (only_alloc (only_trans (only_drew HGr.out) HO4.out) _) (by omega)) (by omega) _
          exact ⟨⟨j + 1, _, l ++ [x], t', b', by omega, by go_num, by omega, Lib.hid (rdIs_succ _ _ _ HL.out HX.out), Lib.hid (fun y hy => (List.mem_append.1 hy).elim (HSz.out y) (fun h => by rw [List.mem_singleton.1 h]; omega)), Lib.hid hRe, Lib.hid hOe, Lib.hid hYe, Lib.hid hZe, Lib.hid hGe, by rw [set_size]; omega⟩, by simp [intOf]; omega⟩
      · have hjn : j = n := by omega
        subst hjn
        have hl := HL.out
        rw [HIS.out] at hl
        injection hl with e1 e2
        injection e2 with e2 e3
        subst e1 e2 e3
        obtain ⟨A, cp, rfl⟩ := own_slice HOr.out
        have hln := Lib.hid (own_len HOr.out)
        obtain ⟨e0, e1, e2, e3, e4, e5⟩ := facts6 HZr.out
        obtain ⟨f0, f1, f2, f3, f4, f5⟩ := free6 HZr.out
        go_wp2
        refine end61 Tryd.results33 ?_ (set6 _ _ _ _ _ _ HZr.out) ?_
        · rfl
        · have hor := HOr.out
          have hln' := hln.out
          subst hln'
          exact rv_out (a := ⟨4, ⟨#[]⟩, [], is, 0, 0⟩) (PA := none) (pc := 0) (IA := A) (ic := cp) hgl HRr.out HGr.out (.inl rfl) (own_rd hor).1 (fun _ _ h => by cases h) (fun b' off h => by have := (hor.lt b' (by rw [h]; rfl)).1; omega) (Nat.zero_le _) (by show is.length ≤ maxLen; unfold maxLen; omega) (Nat.zero_le _) (fun _ h => by cases h) HSz.out
end Go.Proofs.YtdpgkihecpjijaaDoor.T
