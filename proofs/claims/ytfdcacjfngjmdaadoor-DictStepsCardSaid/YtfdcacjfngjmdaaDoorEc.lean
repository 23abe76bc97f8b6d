import Derived.Deep.DeepCutAuto
import Derived.Laws.OwnMore
import Derived.OwnWalk
import Derived.Lib.AppendStr
import Derived.Lib.SliceRun
import Derived.Lib.SmallJoins
import Derived.IntWalk
import Derived.WalkMore
import Derived.Lib.OthersKept
import Derived.Deep.LoopGhost
import Derived.Deep.RegionLaw
import Derived.Deep.AppendLies
import Derived.Test.YtfdcacjfngjmdaaDoorProg
import Derived.Test.YtfdcacjfngjmdaaDoorMem
import Derived.Test.YtfdcacjfngjmdaaDoorBlk
import Derived.Test.YtfdcacjfngjmdaaDoorAp
import Derived.Test.YtfdcacjfngjmdaaDoorEb
import Derived.WalkKit
import Derived.Outline
import Derived.WalkLawsBesides
import Derived.Deep.QuietTactic
import Derived.BigQuiet
import Derived.Lib.Hide
import Derived.Handy
import Derived.Deep.RegionHeld3
import Derived.Deep.DrawnRows
import Derived.KernelRfl
import Derived.Great.Walk
import Derived.Test.YtfdcacjfngjmdaaDoorOwn
namespace Go.Proofs.YtfdcacjfngjmdaaDoor.T
open Go Go.RowKit Go.Sort Mem Own
set_option maxRecDepth 100000
set_option maxHeartbeats 1000000
set_option linter.unusedVariables false
set_option linter.unusedSimpArgs false

theorem cell_sets3 {w : World} {b k i : Nat} {u0 u1 u2 : Value} (h : k ≠ b) : (((w.setCell ⟨b, 0, none⟩ u0).setCell ⟨b, 1, none⟩ u1).setCell ⟨b, 2, none⟩ u2).cell? ⟨k, i, none⟩ = w.cell? ⟨k, i, none⟩ := by
  rw [World.cell?_setCell_other _ _ _ _ (by simp [Ne.symm h]), World.cell?_setCell_other _ _ _ _ (by simp [Ne.symm h]), World.cell?_setCell_other _ _ _ _ (by simp [Ne.symm h])]
theorem DR.box {w : World} {B D TR TI g gn go : Nat} {ow : Ow} {m : Dm} {nv ov : List Value} (h : DR w B D TR TI g ow m gn go nv ov) {b : Nat} (hb : (ow b).1 = 0) (u0 u1 u2 : Value) :
    DR (((w.setCell ⟨b, 0, none⟩ u0).setCell ⟨b, 1, none⟩ u1).setCell ⟨b, 2, none⟩ u2) B D TR TI g ow m gn go nv ov :=
  h.keep ⟨by rw [set_sz, set_sz, set_sz]; exact Nat.le_refl _, fun k _ hr => by
    have hne : k ≠ b := fun e => by rw [e, hb] at hr; omega
    rw [heap_set _ _ _ _ _ hne, heap_set _ _ _ _ _ hne, heap_set _ _ _ _ _ hne]⟩ fun _ _ => rfl
theorem Chg.box {B g b : Nat} {ow ow' : Ow} {w w' : World} (h : Chg B g ow ow' w w') (hb : w.heap.size ≤ b) (hB : B ≤ b) (u0 u1 u2 : Value) :
    Chg B g ow ow' w (((w'.setCell ⟨b, 0, none⟩ u0).setCell ⟨b, 1, none⟩ u1).setCell ⟨b, 2, none⟩ u2) :=
  ⟨below_sets3 h.below hB, h.tags, fun k hk hr => by
    have hne : k ≠ b := by omega
    rw [heap_set _ _ _ _ _ hne, heap_set _ _ _ _ _ hne, heap_set _ _ _ _ _ hne]; exact h.rest k hk hr⟩
/-- A call, plainly: 0 Put, 1 Delete, 2 Get, 3 Step. -/
structure Cl where
  k : Int
  v : Int
  n : ByteArray
/-- A dict behind a call. -/
def Dm.does (m : Dm) (o : Cl) : Dm := if o.k = 0 then m.step.put o.n (.int .i64 o.v) else if o.k = 1 then m.step.del o.n else if o.k = 2 then m else if o.k = 3 then m.step else m
/-- All values are numbers. -/
def Ints (m : Dm) : Prop := ∀ t v, m.get t = some v → ∃ z, v = .int .i64 z
structure Gd (K : Nat) (m : Dm) : Prop where
  inv : Inv K m
  pw : Pw m
  ints : Ints m
theorem Gd.new : Gd 0 Dm.new := ⟨Inv.new, Pw.new, fun t v h => by rw [get_none fun x hx => by simp [Dm.all, Dm.new, List.replicate] at hx] at h; cases h⟩
theorem Gd.step {K : Nat} {m : Dm} (h : Gd K m) : Gd K m.step := ⟨h.inv.step, h.pw.step, fun t v hv => h.ints t v (by rw [step_get h.inv] at hv; exact hv)⟩
theorem does_gd {K : Nat} {m : Dm} (h : Gd K m) (o : Cl) (ho : o.n.size ≤ maxLen) : Gd (K + 1) (m.does o) := by
  unfold Dm.does
  split
  · obtain ⟨g1, g2⟩ := put_get h.step.inv (t := o.n) (.int .i64 o.v) rfl ho
    refine ⟨g1, h.step.pw.put _ _, fun t v hv => ?_⟩
    rw [g2] at hv
    split at hv
    · injection hv with hv; exact ⟨o.v, hv.symm⟩
    · exact h.step.ints t v hv
  split
  · refine ⟨(del_inv h.step.inv h.step.pw o.n).mono (by omega), h.step.pw.del _, fun t v hv => ?_⟩
    rw [del_get h.step.inv h.step.pw] at hv
    split at hv
    · cases hv
    · exact h.step.ints t v hv
  split
  · exact ⟨h.inv.mono (by omega), h.pw, h.ints⟩
  split
  · exact ⟨h.step.inv.mono (by omega), h.step.pw, h.step.ints⟩
  · exact ⟨h.inv.mono (by omega), h.pw, h.ints⟩
/-- What is there behind a call hangs on what was there alone. -/
theorem does_same {K K' : Nat} {m m' : Dm} (h : Gd K m) (h' : Gd K' m') (o : Cl) (ho : o.n.size ≤ maxLen) (hs : ∀ t, m.get t = m'.get t) : ∀ t, (m.does o).get t = (m'.does o).get t := by
  intro t
  unfold Dm.does
  split
  · rw [(put_get h.step.inv (t := o.n) (.int .i64 o.v) rfl ho).2, (put_get h'.step.inv (t := o.n) (.int .i64 o.v) rfl ho).2, step_get h.inv, step_get h'.inv, hs]
  split
  · rw [del_get h.step.inv h.step.pw, del_get h'.step.inv h'.step.pw, step_get h.inv, step_get h'.inv, hs]
  split
  · exact hs t
  split
  · rw [step_get h.inv, step_get h'.inv, hs]
  · exact hs t
theorem gets_int {K : Nat} {m : Dm} (h : Gd K m) (t : ByteArray) : ∃ z, (m.gets t (.int .i64 0)).1 = .int .i64 z := by
  unfold Dm.gets
  cases e : m.get t with
  | none => exact ⟨0, rfl⟩
  | some v => exact h.ints t v e
/-- does, with the document's empty dict. -/
theorem does_is (B g gn go K : Nat) (ow : Ow) (m : Dm) (nv ov : List Value) (o : Cl) (w : World) (h : DR w B 75 81 80 g ow m gn go nv ov) (hi : Gd K m) (hK : K ≤ 1000000000) (ho : o.n.size ≤ 9223372036854775807) (hh : Hv w) (hB0 : 0 < B) :
    Calls Tryd.prog 26 #[.pointer (some ⟨g, 0, none⟩), .agg #[.slice none 0 0, .int .i64 4, .int .i64 0], .agg #[.int .i64 o.k, .int .i64 o.v, .string o.n]] w fun e w' => (∃ v, e = .returned v) ∧ ∃ ow' gn' go' nv' ov', DR w' B 75 81 80 g ow' (m.does o) gn' go' nv' ov' ∧ Chg B g ow ow' w w' := by
  have hBw : B ≤ w.heap.size := by have h1 := h.base; have h2 := lt_of_blk h.blk; omega
  have HN := Lib.hid (new3 w #[.slice none 0 0, .int .i64 4, .int .i64 0] #[.int .i64 o.k, .int .i64 o.v, .string o.n] #[.slice none 0 0, .int .i64 0, .int .i64 0] 50 56 50)
  obtain ⟨k, v, n⟩ := o
  dsimp only at HN ho ⊢
  have HD := Lib.hid h.owc
  have HI := Lib.hid hi
  have HH := Lib.hid hh
  clear h hi hh
  go_enter Tryd.func26, Tryd.ntmps26
  go_upto_region 1 with fail
  obtain ⟨w1, hw1⟩ : ∃ w1, w1 = ((w.alloc (.cells #[.slice none 0 0, .int .i64 4, .int .i64 0] 50)).alloc (.cells #[.int .i64 k, .int .i64 v, .string n] 56)).alloc (.cells #[.slice none 0 0, .int .i64 0, .int .i64 0] 50) := ⟨_, rfl⟩
  rw [← hw1] at HN ⊢
  clear hw1
  have HB0 := Lib.hid HN.out.1
  have HB1 := Lib.hid HN.out.2.1
  have HB2 := Lib.hid HN.out.2.2.1
  have HW1 := Lib.hid HN.out.2.2.2
  clear HN
  obtain ⟨ow1, how1⟩ : ∃ o, o = owc ow w.heap.size := ⟨_, rfl⟩
  have HC0 := Lib.hid (show Chg B g ow ow1 w w1 from ⟨HW1.out.mono hBw, fun b hb => by rw [how1]; unfold owc; rw [if_pos hb], fun b hb _ => HW1.out.block b hb⟩)
  have HFR := Lib.hid (show ∀ q, w.heap.size ≤ q → (ow1 q).1 = 0 from fun q hq => by rw [how1]; unfold owc; rw [if_neg (by omega)])
  rw [← how1] at HD
  have HD1 := Lib.hid (HD.out.below HW1.out)
  clear how1 HD
  have hz1 := HW1.out.size
  have hb2 := lt_of_blk HB2.out
  have HV1 := Lib.hid (HH.out.keep HC0.out.below hB0)
  obtain ⟨y0, y1, y2⟩ := cells3 HB0.out
  obtain ⟨x0, x1, x2⟩ := cells3 HB1.out
  -- what a call on the dict leaves alone
  have HK := Lib.hid (fun (ow6 : Ow) (wa w6 : World) (hwa : Below w1.heap.size w1 wa) (hc : Chg B g ow1 ow6 wa w6) (b : Nat) (ob : Obj) (hb : wa.heap[b]? = some ob) (hlt : w.heap.size ≤ b) => show w6.heap[b]? = some ob from (hc.rest b (lt_of_blk hb) (by rw [HFR.out b hlt]; omega)).trans hb)
  by_cases hk0 : k = 0
  · subst hk0
    have hdo : m.does ⟨0, v, n⟩ = m.step.put n (.int .i64 v) := by unfold Dm.does; rw [if_pos rfl]
    have HDO := Lib.hid hdo
    have HP := Lib.hid (fun (wx : World) (hd : DR wx B 75 81 80 g ow1 m gn go nv ov) (hv : Hv wx) => putI_is B g gn go K ow1 m nv ov n v wx hd HI.out.inv HI.out.inv.step hK ho hv hB0)
    clear hdo
    go_upto_region 4 with (go_at_call 39; refine Calls.mono (rput_is _ _ _) ?_; rintro e w2 ⟨A, c, rfl, hb2'⟩; have HW2 := Lib.hid hb2'; clear hb2')
    have HN3 := Lib.hid (new1 w2 #[.slice A 1 c, .int .i64 4, .int .i64 0] 50)
    obtain ⟨w3, hw3⟩ : ∃ w3, w3 = w2.alloc (.cells #[.slice A 1 c, .int .i64 4, .int .i64 0] 50) := ⟨_, rfl⟩
    rw [← hw3] at HN3 ⊢
    clear hw3
    have HW3 := Lib.hid (HW2.out.trans (HN3.out.2.mono HW2.out.size))
    have hz3 := HW3.out.size
    have hz2 := HW2.out.size
    have HD3 := Lib.hid (HD1.out.below HW3.out)
    have HC3 := Lib.hid (HC0.out.trans (Chg.of_below HW3.out (by omega)))
    have HE1 := Lib.hid (keep_blk HW3.out HB1.out)
    have HE2 := Lib.hid (keep_blk HW3.out HB2.out)
    obtain ⟨p0, p1, p2⟩ := cells3 HN3.out.1
    obtain ⟨q0, q1, q2⟩ := cells3 HE1.out
    have hV3 := Lib.hid (HH.out.keep HC3.out.below hB0)
    clear x0 x1 x2 y0 y1 y2
    have hlt3 : w2.heap.size < w3.heap.size := lt_of_blk HN3.out.1
    have hst : w.heap.size + 1 + 1 < w2.heap.size := by omega
    go_region_held3 (fun w' => w'.cell? ⟨w2.heap.size, 0, none⟩ = some (.slice A 1 c) ∧ w'.cell? ⟨w2.heap.size, 1, none⟩ = some (.int .i64 4) ∧ w'.cell? ⟨w2.heap.size, 2, none⟩ = some (.int .i64 0) ∧ w'.cell? ⟨w.heap.size + 1, 1, none⟩ = some (.int .i64 v) ∧ w'.cell? ⟨w.heap.size + 1, 2, none⟩ = some (.string n))
      (first | exact ⟨p0, p1, p2, q1, q2⟩ | exact ⟨u0, u1, u2, u3, u4⟩ | (refine ⟨?_, ?_, ?_, ?_, ?_⟩ <;> (rw [cell_sets3 (by omega)]; assumption)))
      (first
        | (go_at_call 15; refine Calls.mono (HP.out _ (HD3.out.below (Below.refl _ _).drew) (hV3.out.below (Below.refl _ _).drew)) ?_; rintro e w6 ⟨rfl, ow6, gn6, go6, nv6, ov6, hd6, hc6⟩; have HD6 := Lib.hid hd6; have hc6' := (Chg.of_below (g := g) (ow := ow1) (Below.refl w3.heap.size w3).drew (by omega)).trans hc6; have HC6 := Lib.hid (HC3.out.trans hc6'); have HF1 := Lib.hid (HK.out _ _ _ HW3.out hc6' _ _ HE1.out (by omega)); have HF2 := Lib.hid (HK.out _ _ _ HW3.out hc6' _ _ HE2.out (by omega)); have HF3 := Lib.hid (HK.out _ _ _ HW3.out hc6' _ _ HN3.out.1 (by omega)); have HT6 := Lib.hid (show (ow6 (w.heap.size + 1 + 1)).1 = 0 by rw [hc6'.tags _ (lt_of_blk HE2.out)]; exact HFR.out _ (by omega)); clear hd6 hc6 hc6'; obtain ⟨u0, u1, u2⟩ := cells3 HF3.out; obtain ⟨-, u3, u4⟩ := cells3 HF1.out; obtain ⟨f0, f1, f2⟩ := frees3 HF2.out; obtain ⟨e0, e1, e2⟩ := cells3 HF2.out))
    go_wp2_with fail
    refine ret_d rfl rfl rfl (sets3 _ _ _ HF2.out) ?_
    exact ⟨⟨_, rfl⟩, ow6, gn6, go6, nv6, ov6, by rw [HDO.out]; exact HD6.out.box HT6.out _ _ _, HC6.out.box (by omega) (by omega) _ _ _⟩
  have hd0 : decide (k = 0) = false := decide_eq_false hk0
  by_cases hk1 : k = 1
  · subst hk1
    have hdo : m.does ⟨1, v, n⟩ = m.step.del n := by unfold Dm.does; rw [if_neg (by simp), if_pos rfl]
    have HDO := Lib.hid hdo
    have HP := Lib.hid (fun (wx : World) (hd : DR wx B 75 81 80 g ow1 m gn go nv ov) (hv : Hv wx) => deleteI_is B g gn go K ow1 m nv ov n wx hd HI.out.inv HI.out.inv.step hK ho hv hB0)
    clear hdo
    go_upto_region 7 with (go_at_call 40; refine Calls.mono (rdel_is _ _) ?_; rintro e w2 ⟨rfl, hb2'⟩; have HW2 := Lib.hid hb2'; clear hb2')
    have HN3 := Lib.hid (new1 w2 #[.slice none 0 0, .int .i64 4, .int .i64 0] 50)
    obtain ⟨w3, hw3⟩ : ∃ w3, w3 = w2.alloc (.cells #[.slice none 0 0, .int .i64 4, .int .i64 0] 50) := ⟨_, rfl⟩
    rw [← hw3] at HN3 ⊢
    clear hw3
    have HW3 := Lib.hid (HW2.out.trans (HN3.out.2.mono HW2.out.size))
    have hz3 := HW3.out.size
    have hz2 := HW2.out.size
    have HD3 := Lib.hid (HD1.out.below HW3.out)
    have HC3 := Lib.hid (HC0.out.trans (Chg.of_below HW3.out (by omega)))
    have HE1 := Lib.hid (keep_blk HW3.out HB1.out)
    have HE2 := Lib.hid (keep_blk HW3.out HB2.out)
    obtain ⟨p0, p1, p2⟩ := cells3 HN3.out.1
    obtain ⟨q0, q1, q2⟩ := cells3 HE1.out
    have hV3 := Lib.hid (HH.out.keep HC3.out.below hB0)
    clear x0 x1 x2 y0 y1 y2
    have hlt3 : w2.heap.size < w3.heap.size := lt_of_blk HN3.out.1
    have hst : w.heap.size + 1 + 1 < w2.heap.size := by omega
    go_region_held3 (fun w' => w'.cell? ⟨w2.heap.size, 0, none⟩ = some (.slice none 0 0) ∧ w'.cell? ⟨w2.heap.size, 1, none⟩ = some (.int .i64 4) ∧ w'.cell? ⟨w2.heap.size, 2, none⟩ = some (.int .i64 0) ∧ w'.cell? ⟨w.heap.size + 1, 1, none⟩ = some (.int .i64 v) ∧ w'.cell? ⟨w.heap.size + 1, 2, none⟩ = some (.string n))
      (first | exact ⟨p0, p1, p2, q1, q2⟩ | exact ⟨u0, u1, u2, u3, u4⟩ | (refine ⟨?_, ?_, ?_, ?_, ?_⟩ <;> (rw [cell_sets3 (by omega)]; assumption)))
      (first
        | (go_at_call 17; refine Calls.mono (HP.out _ (HD3.out.below (Below.refl _ _).drew) (hV3.out.below (Below.refl _ _).drew)) ?_; rintro e w6 ⟨rfl, ow6, gn6, go6, nv6, ov6, hd6, hc6⟩; have HD6 := Lib.hid hd6; have hc6' := (Chg.of_below (g := g) (ow := ow1) (Below.refl w3.heap.size w3).drew (by omega)).trans hc6; have HC6 := Lib.hid (HC3.out.trans hc6'); have HF1 := Lib.hid (HK.out _ _ _ HW3.out hc6' _ _ HE1.out (by omega)); have HF2 := Lib.hid (HK.out _ _ _ HW3.out hc6' _ _ HE2.out (by omega)); have HF3 := Lib.hid (HK.out _ _ _ HW3.out hc6' _ _ HN3.out.1 (by omega)); have HT6 := Lib.hid (show (ow6 (w.heap.size + 1 + 1)).1 = 0 by rw [hc6'.tags _ (lt_of_blk HE2.out)]; exact HFR.out _ (by omega)); clear hd6 hc6 hc6'; obtain ⟨u0, u1, u2⟩ := cells3 HF3.out; obtain ⟨-, u3, u4⟩ := cells3 HF1.out; obtain ⟨f0, f1, f2⟩ := frees3 HF2.out; obtain ⟨e0, e1, e2⟩ := cells3 HF2.out))
    go_wp2_with fail
    refine ret_d rfl rfl rfl (sets3 _ _ _ HF2.out) ?_
    exact ⟨⟨_, rfl⟩, ow6, gn6, go6, nv6, ov6, by rw [HDO.out]; exact HD6.out.box HT6.out _ _ _, HC6.out.box (by omega) (by omega) _ _ _⟩
  have hd1 : decide (k = 1) = false := decide_eq_false hk1
  by_cases hk2 : k = 2
  · subst hk2
    have hdo : m.does ⟨2, v, n⟩ = m := by unfold Dm.does; rw [if_neg (by simp), if_neg (by simp), if_pos rfl]
    have HDO := Lib.hid hdo
    obtain ⟨z, hz⟩ := gets_int HI.out n
    have HP := Lib.hid (fun (wx : World) (hd : DR wx B 75 81 80 g ow1 m gn go nv ov) (hv : Hv wx) => (by
      have := getI_is B g gn go K ow1 m nv ov n wx hd HI.out.inv hK ho hv
      rw [hz] at this; exact this : Calls Tryd.prog 16 #[.pointer (some ⟨g, 0, none⟩), .string n] wx fun e w' => e = .returned (.tuple #[.int .i64 z, .bool (m.gets n (.int .i64 0)).2]) ∧ Below wx.heap.size wx w'))
    clear hdo hz
    generalize (m.gets n (.int .i64 0)).2 = bb at HP
    go_wp2_with (first
      | (go_at_call 16; refine Calls.mono (HP.out _ HD1.out HV1.out) ?_; rintro e w2 ⟨rfl, hb2'⟩; have HW2 := Lib.hid hb2'; have HE0 := Lib.hid (keep_blk hb2' HB0.out); have HE1 := Lib.hid (keep_blk hb2' HB1.out); have HE2 := Lib.hid (keep_blk hb2' HB2.out); clear hb2'; obtain ⟨p0, p1, p2⟩ := cells3 HE0.out; obtain ⟨q0, q1, q2⟩ := cells3 HE1.out)
      | (go_at_call 41; refine Calls.mono (rget_is _ _) ?_; rintro e w3 ⟨rfl, hb3'⟩; have HW3 := Lib.hid (HW2.out.trans (hb3'.mono HW2.out.size)); have HF0 := Lib.hid (keep_blk hb3' HE0.out); have HF2 := Lib.hid (keep_blk hb3' HE2.out); clear hb3'; obtain ⟨u0, u1, u2⟩ := cells3 HF0.out; obtain ⟨f0, f1, f2⟩ := frees3 HF2.out; obtain ⟨e0, e1, e2⟩ := cells3 HF2.out))
    all_goals
      refine ret_d rfl rfl rfl (sets3 _ _ _ HF2.out) ?_
      exact ⟨⟨_, rfl⟩, ow1, gn, go, nv, ov, by rw [HDO.out]; exact (HD1.out.below HW3.out).box (HFR.out _ (by omega)) _ _ _, (HC0.out.trans (Chg.of_below HW3.out (by omega))).box (by omega) (by omega) _ _ _⟩
  have hd2 : decide (k = 2) = false := decide_eq_false hk2
  by_cases hk3 : k = 3
  · subst hk3
    have hdo : m.does ⟨3, v, n⟩ = m.step := by unfold Dm.does; rw [if_neg (by simp), if_neg (by simp), if_neg (by simp), if_pos rfl]
    have HDO := Lib.hid hdo
    have HP := Lib.hid (fun (wx : World) (hd : DR wx B 75 81 80 g ow1 m gn go nv ov) (hv : Hv wx) => stepI_is B g gn go K ow1 m nv ov wx hd HI.out.inv hK hv hB0)
    clear hdo
    go_upto_region 14 with (go_at_call 42; refine Calls.mono (rstep_is _) ?_; rintro e w2 ⟨rfl, hb2'⟩; have HW2 := Lib.hid hb2'; clear hb2')
    have HN3 := Lib.hid (new1 w2 #[.slice none 0 0, .int .i64 4, .int .i64 0] 50)
    obtain ⟨w3, hw3⟩ : ∃ w3, w3 = w2.alloc (.cells #[.slice none 0 0, .int .i64 4, .int .i64 0] 50) := ⟨_, rfl⟩
    rw [← hw3] at HN3 ⊢
    clear hw3
    have HW3 := Lib.hid (HW2.out.trans (HN3.out.2.mono HW2.out.size))
    have hz3 := HW3.out.size
    have hz2 := HW2.out.size
    have HD3 := Lib.hid (HD1.out.below HW3.out)
    have HC3 := Lib.hid (HC0.out.trans (Chg.of_below HW3.out (by omega)))
    have HE1 := Lib.hid (keep_blk HW3.out HB1.out)
    have HE2 := Lib.hid (keep_blk HW3.out HB2.out)
    obtain ⟨p0, p1, p2⟩ := cells3 HN3.out.1
    obtain ⟨q0, q1, q2⟩ := cells3 HE1.out
    have hV3 := Lib.hid (HH.out.keep HC3.out.below hB0)
    clear x0 x1 x2 y0 y1 y2
    have hlt3 : w2.heap.size < w3.heap.size := lt_of_blk HN3.out.1
    have hst : w.heap.size + 1 + 1 < w2.heap.size := by omega
    go_region_held3 (fun w' => w'.cell? ⟨w2.heap.size, 0, none⟩ = some (.slice none 0 0) ∧ w'.cell? ⟨w2.heap.size, 1, none⟩ = some (.int .i64 4) ∧ w'.cell? ⟨w2.heap.size, 2, none⟩ = some (.int .i64 0) ∧ w'.cell? ⟨w.heap.size + 1, 1, none⟩ = some (.int .i64 v) ∧ w'.cell? ⟨w.heap.size + 1, 2, none⟩ = some (.string n))
      (first | exact ⟨p0, p1, p2, q1, q2⟩ | exact ⟨u0, u1, u2, u3, u4⟩ | (refine ⟨?_, ?_, ?_, ?_, ?_⟩ <;> (rw [cell_sets3 (by omega)]; assumption)))
      (first
        | (go_at_call 18; refine Calls.mono (HP.out _ (HD3.out.below (Below.refl _ _).drew) (hV3.out.below (Below.refl _ _).drew)) ?_; rintro e w6 ⟨rfl, ow6, nv6, ov6, hd6, hc6⟩; have HD6 := Lib.hid hd6; have hc6' := (Chg.of_below (g := g) (ow := ow1) (Below.refl w3.heap.size w3).drew (by omega)).trans hc6; have HC6 := Lib.hid (HC3.out.trans hc6'); have HF1 := Lib.hid (HK.out _ _ _ HW3.out hc6' _ _ HE1.out (by omega)); have HF2 := Lib.hid (HK.out _ _ _ HW3.out hc6' _ _ HE2.out (by omega)); have HF3 := Lib.hid (HK.out _ _ _ HW3.out hc6' _ _ HN3.out.1 (by omega)); have HT6 := Lib.hid (show (ow6 (w.heap.size + 1 + 1)).1 = 0 by rw [hc6'.tags _ (lt_of_blk HE2.out)]; exact HFR.out _ (by omega)); clear hd6 hc6 hc6'; obtain ⟨u0, u1, u2⟩ := cells3 HF3.out; obtain ⟨-, u3, u4⟩ := cells3 HF1.out; obtain ⟨f0, f1, f2⟩ := frees3 HF2.out; obtain ⟨e0, e1, e2⟩ := cells3 HF2.out))
    go_wp2_with fail
    refine ret_d rfl rfl rfl (sets3 _ _ _ HF2.out) ?_
    exact ⟨⟨_, rfl⟩, ow6, gn, go, nv6, ov6, by rw [HDO.out]; exact HD6.out.box HT6.out _ _ _, HC6.out.box (by omega) (by omega) _ _ _⟩
  have hd3 : decide (k = 3) = false := decide_eq_false hk3
  have hdo : m.does ⟨k, v, n⟩ = m := by unfold Dm.does; rw [if_neg hk0, if_neg hk1, if_neg hk2, if_neg hk3]
  have HDO := Lib.hid hdo
  clear hdo
  obtain ⟨f0, f1, f2⟩ := frees3 HB2.out
  obtain ⟨e0, e1, e2⟩ := cells3 HB2.out
  go_wp2
  refine ret_d rfl rfl rfl (sets3 _ _ _ HB2.out) ?_
  exact ⟨⟨_, rfl⟩, ow1, gn, go, nv, ov, by rw [HDO.out]; exact HD1.out.box (HFR.out _ (by omega)) _ _ _, HC0.out.box (by omega) (by omega) _ _ _⟩
end Go.Proofs.YtfdcacjfngjmdaaDoor.T
