import Derived.Deep.DeepCutAuto
import Derived.Laws.OwnMore
import Derived.OwnWalk
import Derived.Lib.AppendStr
import Derived.Lib.SliceRun
import Derived.Lib.SmallJoins
import Derived.IntWalk
import Derived.Lib.ItoaLen
import Derived.WalkMore
import Derived.Lib.OthersKept
import Derived.Laws.Runes
import Derived.Deep.LoopGhost
import Derived.Deep.RegionLaw
import Derived.Deep.AppendLies
import Derived.Test.YteghfinngilfgaaDoorProg
import Derived.Test.YteghfinngilfgaaDoorMem
import Derived.Test.YteghfinngilfgaaDoorYj
import Derived.WalkKit
import Derived.Outline
import Derived.WalkLawsBesides
import Derived.Deep.QuietTactic
import Derived.BigQuiet
import Derived.Lib.Hide
import Derived.Handy
import Derived.Deep.RegionHeld3
import Derived.Deep.DrawnRows
import Derived.KernelRfl
import Derived.Great.Walk
import Derived.Test.YteghfinngilfgaaDoorOwn
namespace Go.Proofs.YteghfinngilfgaaDoor.T
open Go Go.RowKit Go.Sort Mem Own
set_option maxRecDepth 100000
set_option maxHeartbeats 1000000
set_option linter.unusedVariables false
set_option linter.unusedSimpArgs false

def Tab (w : World) : Prop := Lib.TabIs Tryd.prog w "internal/strconv.uint64pow10" .u64 Lib.pow10Tab
theorem Tab.keep {w w' : World} (h : Tab w) (hb : Below w.heap.size w w') : Tab w' := var?_keep hb h
theorem grow_below (w : World) (os : Array Obj) (B : Nat) (hB : B ≤ w.heap.size) : Below B w (grow w os) := by
  refine ⟨rfl, rfl, rfl, ?_, fun k hk => ?_⟩
  · show w.heap.size ≤ (w.heap ++ os).size; simp
  · show (w.heap ++ os)[k]? = _
    rw [Array.getElem?_append_left (by omega)]
/-- A number's text. -/
def dec (n : Int) : ByteArray := ⟨(Lib.itoa n).toArray⟩
theorem dec_list (n : Int) : (dec n).toList = Lib.itoa n := by rw [ByteArray.toList_eq]; rfl
theorem dec_size (n : Int) (h0 : -9223372036854775808 ≤ n) (h1 : n ≤ 9223372036854775807) : (dec n).size ≤ 21 := by
  have := Lib.itoa_length_le n h0 h1
  rw [← dec_list, toList_len] at this
  exact this
theorem itoa_is (n : Int) (w : World) (h0 : -9223372036854775808 ≤ n) (h1 : n ≤ 9223372036854775807) (hT : Tab w) :
    Calls Tryd.prog 29 #[.int .i64 n] w fun e w' => e = .returned (.string (dec n)) ∧ Below w.heap.size w w' :=
  (Tryd.strconv_Itoa n h0 h1 w hT).mono fun e w' ⟨he, k, os, hw⟩ => ⟨he, by rw [hw]; exact (Go.below_drewN (Below.refl _ _) k).trans (grow_below _ _ _ (Nat.le_refl _))⟩
set_option maxHeartbeats 4000000 in
theorem write_nil (x : T) (d : Nat) (A : Option Addr) (c : Nat) (v : Value) (m : Nat) (bs : List UInt8) (w0 w : World) (hk : x.k = 5) (hbr : bareB x = true) (hb : Below w0.heap.size w0 w) (hO : w.ownsRow w0.heap.size 5 1 v m (bcs bs)) (hm : m + x.t.size + 64 ≤ 140737488355328) :
    Calls Tryd.prog 23 #[v, tV x.k x.z x.t A x.l.length c, .int .i64 d] w (WOut (enc d x) bs w0.heap.size w0) := by
  have HP := Lib.hid (fun wx => pbare_is x A c wx)
  rw [hbr] at HP
  have HE := Lib.hid (enc_5 (d := d) hbr hk)
  have HW := Lib.hid hb
  have HOW := Lib.hid hO
  generalize enc d x = r at HE ⊢
  clear hb hO hbr
  have HN := Lib.hid (new1 w #[.int .i64 x.k, .int .i64 x.z, .string x.t, .slice A x.l.length c] 24)
  generalize x.k = k at hk HN HP ⊢
  subst hk
  generalize x.z = z at HN HP ⊢
  generalize x.t = t at HN HP hm ⊢
  generalize x.l.length = n at HN HP ⊢
  have HX0 := Lib.hid HN.out.1
  obtain ⟨x0, x1, x2, x3⟩ := cells4 HX0.out
  have hzw := HW.out.size
  have HR := Lib.hid (show r = some ((⟨#[36, 45, 49, 13, 10]⟩ : ByteArray).toList) by rw [HE.out]; congr 1; decide +kernel)
  go_enter Tryd.func23, Tryd.ntmps23
  go_wp2_with (first
    | (go_at_call 27; refine Calls.mono (HP.out _) ?_; (rintro e w1 ⟨rfl, hb1⟩; have HX1 := Lib.hid (keep_blk hb1 HX0.out); have HB1 := Lib.hid (HW.out.trans ((HN.out.2.trans (hb1.mono HN.out.2.size)).mono hzw)); have HO1 := Lib.hid (own_bl HOW.out (HN.out.2.trans (hb1.mono HN.out.2.size))); clear x0 x1 x2 x3 hb1; obtain ⟨x0, x1, x2, x3⟩ := cells4 HX1.out))
    | (at_builtin; refine Own.wpList_append_ex rfl (.tmp 55) (.const (.string ⟨#[36, 45, 49, 13, 10]⟩)) 42 9 rfl v (.string ⟨#[36, 45, 49, 13, 10]⟩) rfl rfl _ (app_str (B := w0.heap.size) ⟨#[36, 45, 49, 13, 10]⟩ HO1.out (by show m + 5 ≤ _; omega) HB1.out.size) ?_; (rintro v5 w5 ⟨hO5, hG5⟩; have HO5 := Lib.hid hO5; have HB5 := Lib.hid (below_own (w0 := w0) (B := w0.heap.size) HB1.out HO1.out hG5 HB1.out.size); clear hO5 hG5)))
  go_ret2
  exact wout_yes HR.out HO5.out HB5.out
set_option maxHeartbeats 4000000 in
theorem write_num (x : T) (d : Nat) (A : Option Addr) (c : Nat) (v : Value) (m : Nat) (bs : List UInt8) (w0 w : World) (hk : x.k = 3) (hbr : bareB x = true) (hz0 : -9223372036854775808 ≤ x.z) (hz1 : x.z ≤ 9223372036854775807) (hT : Tab w0) (hb : Below w0.heap.size w0 w) (hO : w.ownsRow w0.heap.size 5 1 v m (bcs bs)) (hm : m + x.t.size + 64 ≤ 140737488355328) :
    Calls Tryd.prog 23 #[v, tV x.k x.z x.t A x.l.length c, .int .i64 d] w (WOut (enc d x) bs w0.heap.size w0) := by
  have HP := Lib.hid (fun wx => pbare_is x A c wx)
  rw [hbr] at HP
  have HE := Lib.hid (enc_3 (d := d) hbr hk)
  have HW := Lib.hid hb
  have HOW := Lib.hid hO
  have HT := Lib.hid hT
  clear hT
  generalize enc d x = r at HE ⊢
  clear hb hO hbr
  have HN := Lib.hid (new1 w #[.int .i64 x.k, .int .i64 x.z, .string x.t, .slice A x.l.length c] 24)
  generalize x.k = k at hk HN HP ⊢
  subst hk
  generalize x.z = z at HN HP HE hz0 hz1 ⊢
  generalize x.t = t at HN HP hm ⊢
  generalize x.l.length = n at HN HP ⊢
  have HX0 := Lib.hid HN.out.1
  obtain ⟨x0, x1, x2, x3⟩ := cells4 HX0.out
  have hzw := HW.out.size
  have hds := dec_size z hz0 hz1
  have hr : r = some (58 :: ((dec z).toList ++ crlf)) := by rw [HE.out, dec_list]
  have HR := Lib.hid hr
  clear hr
  go_enter Tryd.func23, Tryd.ntmps23
  go_wp2_with ((go_at_call 27; refine Calls.mono (HP.out _) ?_; (rintro e w1 ⟨rfl, hb1⟩; have HX1 := Lib.hid (keep_blk hb1 HX0.out); have HB1 := Lib.hid (HW.out.trans ((HN.out.2.trans (hb1.mono HN.out.2.size)).mono hzw)); have HO1 := Lib.hid (own_bl HOW.out (HN.out.2.trans (hb1.mono HN.out.2.size))); clear x0 x1 x2 x3 hb1; obtain ⟨x0, x1, x2, x3⟩ := cells4 HX1.out)))
  have hz1' := HB1.out.size
  have hB1 := HB1.out
  have hk1 := lt_of_blk HX1.out
  go_region_law
    (first
      | (refine Own.step_append_run rfl (.tmp 47) (.tmp 48) 42 42 rfl v (.slice (some ⟨_, 0, none⟩) 1 1) rfl rfl _ (app_byte (x := 58) (B := w0.heap.size) rfl (by first | exact (HO1.out.alloc _) | exact HO7.out | exact (HO7.out.alloc _)) (by first | exact (heap_alloc_new w1 _) | exact H58.out | exact (heap_alloc_new w7 _)) (by omega) (by first | omega | (simp; omega) | (simp only [alloc_sz, drew_sz]; omega))) ?_; (rintro v3 w3 ⟨hO3, hG3⟩; have HO3 := Lib.hid hO3; have HX3 := Lib.hid (typ_stay (by first | exact (HO1.out.alloc _) | exact HO7.out | exact (HO7.out.alloc _)) hG3 (by first | exact (blk_new HX1.out _) | exact HX7.out | exact (blk_new HX7.out _)) (by decide)); have HB3 := Lib.hid (below_own (w0 := w0) (B := w0.heap.size) (by ((repeat (first | exact Below.refl _ _ | (refine Below.drew ?_) | (refine Go.below_drewN ?_ _) | (refine Below.alloc ?_ (by first | (simp; done) | omega | (simp; omega)) _) | (refine Below.setCell ?_ (by first | (simp; done) | omega | (simp; omega)) _) | (refine Below.trans ?_ (Below.mono (by assumption) (by first | (simp; done) | omega | (simp; omega)))))); done)) (by first | exact (HO1.out.alloc _) | exact HO7.out | exact (HO7.out.alloc _)) hG3 (by first | omega | (simp; omega) | (simp only [alloc_sz, drew_sz]; omega))); have hz3 := HB3.out.size; have hB3 := HB3.out; clear hO3 hG3; (try clear x0 x1 x2 x3); obtain ⟨x0, x1, x2, x3⟩ := cells4 HX3.out; have hk3 := lt_of_blk HX3.out))
      | ((fail_if_success (have := hB7)); go_simp; go_at_call 29; (refine Calls.mono (itoa_is z _ hz0 hz1 (HT.out.keep ?_)) ?_; (focus ((repeat (first | exact Below.refl _ _ | (refine Below.drew ?_) | (refine Go.below_drewN ?_ _) | (refine Below.alloc ?_ (by first | (simp; done) | omega | (simp; omega)) _) | (refine Below.setCell ?_ (by first | (simp; done) | omega | (simp; omega)) _) | (refine Below.trans ?_ (Below.mono (by assumption) (by first | (simp; done) | omega | (simp; omega)))))); done)); (rintro e w7 ⟨rfl, hb7⟩; have hB7 : RowKit.Below w0.heap.size w0 w7 := (by ((repeat (first | exact Below.refl _ _ | (refine Below.drew ?_) | (refine Go.below_drewN ?_ _) | (refine Below.alloc ?_ (by first | (simp; done) | omega | (simp; omega)) _) | (refine Below.setCell ?_ (by first | (simp; done) | omega | (simp; omega)) _) | (refine Below.trans ?_ (Below.mono (by assumption) (by first | (simp; done) | omega | (simp; omega)))))); done)); have HX7 := Lib.hid (keep_blk hb7 (by first | exact HX3.out | exact HX1.out | exact (blk_new HX1.out _))); have HO7 := Lib.hid (own_bl (by first | exact HO3.out | exact HO1.out | exact (HO1.out.alloc _)) hb7); (try (have H58 := Lib.hid (keep_blk hb7 (heap_alloc_new w1 _)))); have hz7 := hB7.size; have hk7 := lt_of_blk HX7.out; (try go_simp))))
      | (refine Own.step_append_run rfl (.tmp 49) (.tmp 52) 42 9 rfl v3 (.string (dec z)) rfl rfl _ (app_str (B := w0.heap.size) (dec z) (by first | exact HO7.out | exact HO3.out) (by omega) (by first | omega | (simp; omega) | (simp only [alloc_sz, drew_sz]; omega))) ?_; (rintro v4 w4 ⟨hO4, hG4⟩; have HO4 := Lib.hid hO4; have HB4 := Lib.hid (below_own (w0 := w0) (B := w0.heap.size) (by ((repeat (first | exact Below.refl _ _ | (refine Below.drew ?_) | (refine Go.below_drewN ?_ _) | (refine Below.alloc ?_ (by first | (simp; done) | omega | (simp; omega)) _) | (refine Below.setCell ?_ (by first | (simp; done) | omega | (simp; omega)) _) | (refine Below.trans ?_ (Below.mono (by assumption) (by first | (simp; done) | omega | (simp; omega)))))); done)) (by first | exact HO7.out | exact HO3.out) hG4 (by first | omega | (simp; omega) | (simp only [alloc_sz, drew_sz]; omega))); have hz4 := HB4.out.size; have hB4 := HB4.out; clear hO4 hG4))
      | (refine Own.step_append_run rfl (.tmp 53) (.const (.string ⟨#[13, 10]⟩)) 42 9 rfl v4 (.string ⟨#[13, 10]⟩) rfl rfl _ (app_str (B := w0.heap.size) ⟨#[13, 10]⟩ (by exact HO4.out) (by show m + 1 + (dec z).size + 2 ≤ _; omega) (by first | omega | (simp; omega) | (simp only [alloc_sz, drew_sz]; omega))) ?_; (rintro v5 w5 ⟨hO5, hG5⟩; have HO5 := Lib.hid hO5; have HB5 := Lib.hid (below_own (w0 := w0) (B := w0.heap.size) (by ((repeat (first | exact Below.refl _ _ | (refine Below.drew ?_) | (refine Go.below_drewN ?_ _) | (refine Below.alloc ?_ (by first | (simp; done) | omega | (simp; omega)) _) | (refine Below.setCell ?_ (by first | (simp; done) | omega | (simp; omega)) _) | (refine Below.trans ?_ (Below.mono (by assumption) (by first | (simp; done) | omega | (simp; omega)))))); done)) (by exact HO4.out) hG5 (by first | omega | (simp; omega) | (simp only [alloc_sz, drew_sz]; omega))); clear hO5 hG5)))
  all_goals
    go_wp2_with fail
    go_ret2
    exact wout_yes HR.out (by rw [← text_eq]; exact HO5.out) HB5.out
end Go.Proofs.YteghfinngilfgaaDoor.T
