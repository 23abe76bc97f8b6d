import Derived.Test.YtdpgkihecpjijaaDoorVk
import Derived.Test.YtdpgkihecpjijaaDoorVl
import Derived.Test.YtdpgkihecpjijaaDoorVm
import Derived.Test.YtdpgkihecpjijaaDoorVn
import Derived.Test.YtdpgkihecpjijaaDoorVo
import Derived.Test.YtdpgkihecpjijaaDoorVp
import Derived.Test.YtdpgkihecpjijaaDoorVq
import Derived.Test.YtdpgkihecpjijaaDoorVr
import Derived.Test.YtdpgkihecpjijaaDoorVs
import Derived.Test.YtdpgkihecpjijaaDoorVt
import Derived.Deep.AppendLies
import Derived.Deep.RegionLaw
import Derived.WalkKit
import Derived.Outline
import Derived.WalkLawsBesides
import Derived.Deep.QuietTactic
import Derived.BigQuiet
import Derived.Lib.Hide
import Derived.Handy
import Derived.Deep.RegionHeld3
import Derived.Deep.DrawnRows
import Derived.KernelRfl
import Derived.Sort.Walk0
import Derived.Great.Walk
import Derived.Test.YtdpgkihecpjijaaDoorOwn
namespace Go.Proofs.YtdpgkihecpjijaaDoor.T
open Go Go.RowKit Mem Own
set_option maxRecDepth 100000
set_option maxHeartbeats 1000000
set_option linter.unusedVariables false
set_option linter.unusedSimpArgs false

theorem info44 : (Tryd.prog.info? 44).map (fun i => (i.zero, i.size, i.bytes)) = some (some (.agg #[.string ByteArray.empty, .string ByteArray.empty]), 2, 32) := by kernel_rfl
def psv (l : List (ByteArray × ByteArray)) : List Value := l.flatMap fun p => [.string p.1, .string p.2]
theorem psv_get : ∀ (l : List (ByteArray × ByteArray)) (i : Nat) (p : ByteArray × ByteArray), l[i]? = some p → (psv l)[i * 2]? = some (.string p.1) ∧ (psv l)[i * 2 + 1]? = some (.string p.2)
  | [], i, p, h => by simp at h
  | q :: l, 0, p, h => by simp at h; subst h; simp [psv]
  | q :: l, i + 1, p, h => by
    have := psv_get l i p (by simpa using h)
    rw [show (i + 1) * 2 = i * 2 + 2 by omega]
    simpa [psv] using this
theorem rdPs_succ (s : ByteArray) (bad : Bool) (j : Nat) {l : List (ByteArray × ByteArray)} {t : ByteArray} {b : Bool} (h : rdPs s bad j = (l, t, b)) {x t' : ByteArray} {b' : Bool} (hx : rdTxt t b = (x, t', b')) {y t2 : ByteArray} {b2 : Bool} (hy : rdTxt t' b' = (y, t2, b2)) : rdPs s bad (j + 1) = (l ++ [(x, y)], t2, b2) := by
  conv => lhs; unfold rdPs
  simp only [h, hx, hy]
theorem ownP_blk {w w' : World} {B n : Nat} {v : Value} {xs : List Value} {g : Nat} (h : w.ownsRow B 44 2 v n xs) (hg : w.grownBy w' (some g)) (hne : g < B) : w'.ownsRow B 44 2 v n xs :=
  h.kept hg (by
    cases hv : v.ownBlock with
    | none => exact .inl rfl
    | some k => right; intro e; injection e with e; have := (h.lt k hv).1; omega)
theorem grownP_blk {w wa w5 : World} {B n b : Nat} {v : Value} {xs : List Value} {o : Obj} (h : w.ownsRow B 44 2 v n xs) (hg : wa.grownBy w5 v.ownBlock) (hb : wa.heap[b]? = some o) (hlt : b < B) : w5.heap[b]? = some o := by
  rw [hg.block b (lt_of_block hb) (fun e => by have := (h.lt b e.symm).1; omega)]; exact hb
theorem grownP_only {w wa w5 : World} {B n g : Nat} {v : Value} {xs : List Value} {w0 : World} (h : w.ownsRow B 44 2 v n xs) (hg : wa.grownBy w5 v.ownBlock) (h0 : w0.grownBy wa (some g)) (hB : w0.heap.size ≤ B) : w0.grownBy w5 (some g) :=
  ⟨hg.os.trans h0.os, hg.tape.trans h0.tape, hg.output.trans h0.output, Nat.le_trans h0.size hg.size, fun k hk hne => (hg.block k (Nat.lt_of_lt_of_le hk h0.size) (fun e => by have := (h.lt k e.symm).1; omega)).trans (h0.block k hk hne)⟩
theorem ownP_push {w5 : World} {B n b : Nat} {v : Value} {xs : List Value} (h : w5.ownsRow B 44 2 v n xs) (hb : b < B) (u : Value) {i : Nat} : (w5.setCell ⟨b, i, none⟩ u).ownsRow B 44 2 v n xs :=
  h.kept (only_set w5 b i u) (by
    cases hv : v.ownBlock with
    | none => exact .inl rfl
    | some k => right; intro e; injection e with e; have := (h.lt k hv).1; omega)
theorem ownP_slice {w : World} {B n : Nat} {v : Value} {xs : List Value} (h : w.ownsRow B 44 2 v n xs) : ∃ A c, v = .slice A n c := by
  rcases h.2 with ⟨rfl, rfl⟩ | ⟨g, cap, cur, rfl, _⟩
  · exact ⟨none, 0, rfl⟩
  · exact ⟨_, _, rfl⟩
theorem psv_len (l : List (ByteArray × ByteArray)) : (psv l).length = l.length * 2 := by
  induction l with
  | nil => rfl
  | cons p l ih => simp [psv] at ih ⊢; omega
theorem ownP_rd {w : World} {B n : Nat} {A : Option Addr} {c : Nat} {l : List (ByteArray × ByteArray)} (h : w.ownsRow B 44 2 (.slice A n c) n (psv l)) : RdP w A l ∧ n = l.length := by
  have h' := h
  have hl : n = l.length := by have := h.1; rw [psv_len] at this; omega
  refine ⟨?_, hl⟩
  rcases h.2 with ⟨e, h0⟩ | ⟨g, cap, cur, e, _, hg, hnc, hcm, _⟩
  · left; exact List.eq_nil_of_length_eq_zero (by omega)
  · injection e with e1 e2 e3
    subst e1; subst e3
    refine .inr ⟨g, 0, rfl, fun i x hx => ?_⟩
    have hi : i < l.length := (List.getElem?_eq_some_iff.1 hx).1
    have hg := psv_get l i x hx
    rw [Nat.zero_add, h'.cellAt (i * 2) (by omega), h'.cellAt (i * 2 + 1) (by omega)]
    exact hg
/-- reader.value, hash -/
theorem rv_hash (g k : Nat) (s s1 : ByteArray) (bad b1 : Bool) (w : World) (h : Rdr w g s bad) (hs : s.size ≤ maxLen) (hr : rdNum 1 s bad = (k, s1, b1)) (hk : k = 2) :
    Calls Tryd.prog 33 #[.pointer (some ⟨g, 0, none⟩)] w (ValOut g (rdVal s bad) w) := by
  have hgl := lt_of_block h
  have H := Lib.hid h; have HRD := Lib.hid hr
  have hs1 : s1.size ≤ maxLen := Nat.le_trans (rdNum_left hr) hs
  unfold rdVal
  rw [hr]
  dsimp only
  subst hk
  generalize hc : rdCnt s1 b1 = r2
  obtain ⟨n, s2, b2⟩ := r2
  have hn := (rdCnt_left hc).2
  have hs2 := Nat.le_trans (rdCnt_left hc).1 hs1
  generalize hi : rdPs s2 b2 n = r3
  obtain ⟨is, s3, b3'⟩ := r3
  have HV := Lib.hid (show rdBody 2 s1 b1 = (⟨2, ⟨#[]⟩, is, [], 0, 0⟩, (s3, b3')) by simp [rdBody, hc, hi])
  have HC := Lib.hid hc; have HIS := Lib.hid hi; have HS2 := Lib.hid hs2
  rw [HV.out]
  obtain ⟨i0, hi, hz0, hz1, hz2⟩ := info_parts info44
  clear hc hs2
  clear h hr
  have hu := Tryd.underlying25
  go_enter Tryd.func33, Tryd.ntmps33
  go_upto_region 1 with fail
  go_cut [3] (fun s3 wx => ∃ b3 : Nat, s3 = .pointer (some ⟨b3, 0, none⟩) ∧ w.heap.size < b3 ∧ RowKit.Hid (wx.heap[w.heap.size]? = some (.cells #[.int .i64 0, .string ⟨#[]⟩, .slice none 0 0, .slice none 0 0, .int .i64 0, .int .i64 0] 27 (0, 0))) ∧ RowKit.Hid (wx.heap[b3]? = some (.cells #[.int .i64 2, .string ⟨#[]⟩, .slice none 0 0, .slice none 0 0, .int .i64 0, .int .i64 0] 27 (0, 0))) ∧ RowKit.Hid (Rdr wx g s1 b1) ∧ RowKit.Hid (w.grownBy wx (some g)))
  case first =>
    go_wp2_with (go_at_call 56; refine Calls.mono (rnum_as g 1 s bad _ _ _ HRD.out _ (H.out.keep ((Below.refl _ _).alloc (Nat.le_refl _) _)) hs (by decide)) ?_; rintro e w1 ⟨rfl, HR, HO⟩)
    go_meet
    exact rv_first hgl HR HO
  case rest =>
    obtain ⟨b3, rfl, hb3, HZ, HY, HR, HG⟩ := hcut
    obtain ⟨d0, d1, d2, d3, d4, d5⟩ := facts6 HY.out
    obtain ⟨e0, e1, e2, e3, e4, e5⟩ := facts6 HZ.out
    obtain ⟨f0, f1, f2, f3, f4, f5⟩ := free6 HZ.out
    go_wp2_with (go_at_call 58; refine Calls.mono (rcount_as g s1 b1 _ _ _ HC.out _ HR.out hs1) ?_; rintro e w2 ⟨rfl, HR2, HO2⟩)
    have HY2 := Lib.hid (only_block HO2.out HY.out (by omega))
    have HZ2 := Lib.hid (only_block HO2.out HZ.out (by omega))
    have HG2 := Lib.hid (only_trans HG.out HO2.out)
    have hb32 := lt_of_block HY2.out
    go_loopw [23] (fun x wr => ∃ (j : Nat) (v0 : Value) (l : List (ByteArray × ByteArray)) (t : ByteArray) (b : Bool), j ≤ n ∧ x = .int .i64 j ∧ t.size ≤ maxLen ∧ RowKit.Hid (rdPs s2 b2 j = (l, t, b)) ∧ RowKit.Hid (∀ y ∈ l, y.1.size ≤ maxLen ∧ y.2.size ≤ maxLen) ∧ RowKit.Hid (Rdr wr g t b) ∧ RowKit.Hid (wr.ownsRow w2.heap.size 44 2 v0 j (psv l)) ∧ RowKit.Hid (wr.heap[b3]? = some (.cells #[.int .i64 2, .string ⟨#[]⟩, v0, .slice none 0 0, .int .i64 0, .int .i64 0] 27 (0, 0))) ∧ RowKit.Hid (wr.heap[w.heap.size]? = some (.cells #[.int .i64 0, .string ⟨#[]⟩, .slice none 0 0, .slice none 0 0, .int .i64 0, .int .i64 0] 27 (0, 0))) ∧ RowKit.Hid (w.grownBy wr (some g)) ∧ w2.heap.size ≤ wr.heap.size) (fun x _ => n - (intOf x).toNat)
    case atStart => exact ⟨0, _, [], s2, b2, Nat.zero_le _, rfl, HS2.out, Lib.hid rfl, Lib.hid (fun _ h => by cases h), HR2, Lib.hid (World.ownsRow_nil _ _ _ _), HY2, HZ2, HG2, Nat.le_refl _⟩
    case round =>
      obtain ⟨j, v0, l, t, b, hj, rfl, ht, HL, HSz, HRr, HOr, HYr, HZr, HGr, hzr⟩ := hrel
      by_cases hlt : j < n
      · generalize hx : rdTxt t b = rx
        obtain ⟨x, t', b'⟩ := rx
        have HX := Lib.hid hx
        have hxl := rdTxt_left hx
        clear hx
        generalize hy : rdTxt t' b' = ry
        obtain ⟨y, t2, b2'⟩ := ry
        have HYt := Lib.hid hy
        have hyl := rdTxt_left hy
        clear hy
        have hgB : g < w2.heap.size := by have := HG2.out.size; omega
        have ht' : t'.size ≤ maxLen := by omega
        go_upto_region 10 with (go_at_call 57; refine Calls.mono (rtext_as g t b _ _ _ HX.out _ HRr.out ht) ?_; rintro e w3 ⟨rfl, HR3, HO3⟩)
        have HG3 := Lib.hid (only_trans HGr.out HO3.out)
        have hz3 : w2.heap.size ≤ w3.heap.size := Nat.le_trans hzr HO3.out.size
        have hzw3 := HGr.out.size
        have HOr3 := Lib.hid (ownP_blk HOr.out HO3.out hgB)
        have HYr3 := Lib.hid (only_block HO3.out HYr.out (by omega))
        have HZr3 := Lib.hid (only_block HO3.out HZr.out (by omega))
        obtain ⟨d0, d1, d2, d3, d4, d5⟩ := facts6 HYr3.out
        obtain ⟨q0, q1, q2, q3, q4, q5⟩ := free6 HYr3.out
        go_region_law
          (first
            | (refine step_append_lies _ (by rfl) _ _ _ (by rfl) w2.heap.size 44 i0 _ 2 32 Tryd.underlying22 hi hz0 hz1 hz2 rfl (by omega) v0 j (psv l) (by rfl) (by exact (HOw.out.alloc _)) ⟨w4.heap.size, 0, none⟩ 1 1 [.string x, .string y] (by rfl) (by rfl) (World.news_of_block (cs := #[.string x, .string y]) (t := 44) (fr := (0, 0)) (heap_alloc_new w4 _)) (by simp [Value.oneCell']) (by omega) (by unfold maxLen; omega) (by omega) (by simp; omega) (w4.heap.size + 1) (by simp) ?_; intro gg cap w5 hown1 hgrow hat hlt'; have HY5 := Lib.hid (grownP_blk HOw.out hgrow (by exact (keep_block ((Below.refl _ _).alloc (Nat.le_refl _) _) HY4.out)) hb32); obtain ⟨d0, d1, d2, d3, d4, d5⟩ := facts6 HY5.out; obtain ⟨q0, q1, q2, q3, q4, q5⟩ := free6 HY5.out; have HGW := Lib.hid hgrow; have HO5 := Lib.hid hown1; clear hgrow hown1 hat)
            | (go_simp; go_at_call 57; refine Calls.mono (rtext_as g t' b' _ _ _ HYt.out _ (by exact HR3.out) ht') ?_; rintro e w4 ⟨rfl, HR4, HO4⟩; have HY4 := Lib.hid (only_block HO4.out (by exact HYr3.out) (by omega)); obtain ⟨d0, d1, d2, d3, d4, d5⟩ := facts6 HY4.out; have hz4 := HO4.out.size; (try simp at hz4); have hb34 : b3 < w4.heap.size := (by omega); have HOw := Lib.hid (ownP_blk (by exact HOr3.out) HO4.out hgB); (try go_simp)))
        all_goals
          go_wp2_with fail
          have hz5 := HGW.out.size
          rw [alloc_size] at hz5
          have hzw := HG3.out.size
          have n1 : b3 ≠ g := by omega
          have hRe : Rdr (w5.setCell ⟨b3, 2, none⟩ (.slice (some ⟨gg, 0, none⟩) (j + 1) cap)) g t2 b2' := blk_other (by omega) (grownP_blk HOw.out HGW.out (keep_block ((Below.refl _ _).alloc (Nat.le_refl _) _) HR4.out) hgB)
          have hOe := ownP_push (i := 2) HO5.out hb32 (.slice (some ⟨gg, 0, none⟩) (j + 1) cap)
          have hYe : (w5.setCell ⟨b3, 2, none⟩ (.slice (some ⟨gg, 0, none⟩) (j + 1) cap)).heap[b3]? = some (.cells #[.int .i64 2, .string ⟨#[]⟩, .slice (some ⟨gg, 0, none⟩) (j + 1) cap, .slice none 0 0, .int .i64 0, .int .i64 0] 27 (0, 0)) := by
            have := heap_set (i := 2) HY5.out (.slice (some ⟨gg, 0, none⟩) (j + 1) cap); simpa using this
          have hZe : (w5.setCell ⟨b3, 2, none⟩ (.slice (some ⟨gg, 0, none⟩) (j + 1) cap)).heap[w.heap.size]? = some (.cells #[.int .i64 0, .string ⟨#[]⟩, .slice none 0 0, .slice none 0 0, .int .i64 0, .int .i64 0] 27 (0, 0)) :=
            blk_other (by omega) (grownP_blk HOw.out HGW.out (keep_block ((Below.refl _ _).alloc (Nat.le_refl _) _) (only_block HO4.out (by exact HZr3.out) (by omega))) (by omega))
          have hGe : w.grownBy (w5.setCell ⟨b3, 2, none⟩ (.slice (some ⟨gg, 0, none⟩) (j + 1) cap)) (some g) := only_new (grownP_only HOw.out HGW.out (only_alloc (only_trans (only_drew HG3.out) HO4.out) _) (by omega)) (by omega) _
          exact ⟨⟨j + 1, _, l ++ [(x, y)], t2, b2', by omega, by go_num, by omega, Lib.hid (rdPs_succ _ _ _ HL.out HX.out HYt.out), Lib.hid (fun p hp => (List.mem_append.1 hp).elim (HSz.out p) (fun h => by rw [List.mem_singleton.1 h]; exact ⟨by dsimp only; omega, by dsimp only; omega⟩)), Lib.hid hRe, Lib.hid (by simpa [psv] using hOe), Lib.hid hYe, Lib.hid hZe, Lib.hid hGe, by rw [set_size]; omega⟩, by simp [intOf]; omega⟩
      · have hjn : j = n := by omega
        subst hjn
        have hl := HL.out
        rw [HIS.out] at hl
        injection hl with e1 e2
        injection e2 with e2 e3
        subst e1 e2 e3
        obtain ⟨A, cp, rfl⟩ := ownP_slice HOr.out
        have hln := Lib.hid (ownP_rd HOr.out).2
        obtain ⟨d0, d1, d2, d3, d4, d5⟩ := facts6 HYr.out
        obtain ⟨e0, e1, e2, e3, e4, e5⟩ := facts6 HZr.out
        obtain ⟨f0, f1, f2, f3, f4, f5⟩ := free6 HZr.out
        go_wp2
        refine end61 Tryd.results33 ?_ (set6 _ _ _ _ _ _ HZr.out) ?_
        · rfl
        · have hor := HOr.out
          have hln' := hln.out
          subst hln'
          exact rv_out (a := ⟨2, ⟨#[]⟩, is, [], 0, 0⟩) (PA := A) (pc := cp) (IA := none) (ic := 0) hgl HRr.out HGr.out (ownP_rd hor).1 (.inl rfl) (fun b' off h => by have := (hor.lt b' (by rw [h]; rfl)).1; omega) (fun _ _ h => by cases h) (by show is.length ≤ maxLen; unfold maxLen; omega) (Nat.zero_le _) (Nat.zero_le _) HSz.out (fun _ h => by cases h)
end Go.Proofs.YtdpgkihecpjijaaDoor.T
