import Derived.Deep.DeepCutAuto
import Derived.Laws.OwnMore
import Derived.OwnWalk
import Derived.Lib.AppendStr
import Derived.Lib.SliceRun
import Derived.Lib.SmallJoins
import Derived.IntWalk
import Derived.Lib.ItoaLen
import Derived.WalkMore
import Derived.Lib.OthersKept
import Derived.Laws.Runes
import Derived.Deep.LoopGhost
import Derived.Deep.RegionLaw
import Derived.Deep.AppendLies
import Derived.Test.YteghfinngilfgaaDoorProg
import Derived.Test.YteghfinngilfgaaDoorMem
import Derived.Test.YteghfinngilfgaaDoorYk
import Derived.WalkKit
import Derived.Outline
import Derived.WalkLawsBesides
import Derived.Deep.QuietTactic
import Derived.BigQuiet
import Derived.Lib.Hide
import Derived.Handy
import Derived.Deep.RegionHeld3
import Derived.Deep.DrawnRows
import Derived.KernelRfl
import Derived.Great.Walk
import Derived.Test.YteghfinngilfgaaDoorOwn
namespace Go.Proofs.YteghfinngilfgaaDoor.T
open Go Go.RowKit Go.Sort Mem Own
set_option maxRecDepth 100000
set_option maxHeartbeats 1000000
set_option linter.unusedVariables false
set_option linter.unusedSimpArgs false

theorem toList_app (a b : ByteArray) : (a ++ b).toList = a.toList ++ b.toList := by
  rw [ByteArray.toList_eq, ByteArray.toList_eq, ByteArray.toList_eq]; simp
theorem dollar_list : (⟨#[36]⟩ : ByteArray).toList = [36] := by decide +kernel
theorem star_list : (⟨#[42]⟩ : ByteArray).toList = [42] := by decide +kernel
/-- What reply.write leaves of a reply that has no writing. -/
theorem write_bare (x : T) (d : Nat) (A : Option Addr) (c : Nat) (v : Value) (bs : List UInt8) (w0 w : World) (hbr : bareB x = false) (hb : Below w0.heap.size w0 w) :
    Calls Tryd.prog 23 #[v, tV x.k x.z x.t A x.l.length c, .int .i64 d] w (WOut (enc d x) bs w0.heap.size w0) := by
  have HP := Lib.hid (fun wx => pbare_is x A c wx)
  rw [hbr] at HP
  have HE := Lib.hid (enc_bare (d := d) hbr)
  have HW := Lib.hid hb
  generalize enc d x = r at HE ⊢
  clear hb hbr
  have HN := Lib.hid (new1 w #[.int .i64 x.k, .int .i64 x.z, .string x.t, .slice A x.l.length c] 24)
  generalize x.k = k at HN HP ⊢
  generalize x.z = z at HN HP ⊢
  generalize x.t = t at HN HP ⊢
  generalize x.l.length = n at HN HP ⊢
  have HX0 := Lib.hid HN.out.1
  obtain ⟨x0, x1, x2, x3⟩ := cells4 HX0.out
  have hzw := HW.out.size
  have hr : r = none := HE.out
  subst hr
  go_enter Tryd.func23, Tryd.ntmps23
  go_wp2_with ((go_at_call 27; refine Calls.mono (HP.out _) ?_; (rintro e w1 ⟨rfl, hb1⟩; have HB1 := Lib.hid (HW.out.trans ((HN.out.2.trans (hb1.mono HN.out.2.size)).mono hzw)); clear x0 x1 x2 x3 hb1)))
  go_ret2
  exact wout_no rfl HB1.out
theorem write_other (x : T) (d : Nat) (A : Option Addr) (c : Nat) (v : Value) (m : Nat) (bs : List UInt8) (w0 w : World) (hbr : bareB x = true) (k1 : ¬ x.k = 1) (k2 : ¬ x.k = 2) (k3 : ¬ x.k = 3) (k4 : ¬ x.k = 4) (k5 : ¬ x.k = 5) (k6 : ¬ x.k = 6) (hb : Below w0.heap.size w0 w) (hO : w.ownsRow w0.heap.size 5 1 v m (bcs bs)) :
    Calls Tryd.prog 23 #[v, tV x.k x.z x.t A x.l.length c, .int .i64 d] w (WOut (enc d x) bs w0.heap.size w0) := by
  have HP := Lib.hid (fun wx => pbare_is x A c wx)
  rw [hbr] at HP
  have HE := Lib.hid (enc_no (d := d) k1 k2 k3 k4 k5 k6)
  have HW := Lib.hid hb
  have HOW := Lib.hid hO
  generalize enc d x = r at HE ⊢
  clear hb hbr hO
  have HN := Lib.hid (new1 w #[.int .i64 x.k, .int .i64 x.z, .string x.t, .slice A x.l.length c] 24)
  generalize x.k = k at HN HP k1 k2 k3 k4 k5 k6 ⊢
  generalize x.z = z at HN HP ⊢
  generalize x.t = t at HN HP ⊢
  generalize x.l.length = n at HN HP ⊢
  have HX0 := Lib.hid HN.out.1
  obtain ⟨x0, x1, x2, x3⟩ := cells4 HX0.out
  have hzw := HW.out.size
  have hr : r = none := HE.out
  subst hr
  have b1 : (k == 1) = false := by simpa using k1
  have b2 : (k == 2) = false := by simpa using k2
  have b3 : (k == 3) = false := by simpa using k3
  have b4 : (k == 4) = false := by simpa using k4
  have b5 : (k == 5) = false := by simpa using k5
  have b6 : (k == 6) = false := by simpa using k6
  clear k1 k2 k3 k4 k5 k6
  go_enter Tryd.func23, Tryd.ntmps23
  go_wp2_with ((go_at_call 27; refine Calls.mono (HP.out _) ?_; (rintro e w1 ⟨rfl, hb1⟩; have HX1 := Lib.hid (keep_blk hb1 HX0.out); have HB1 := Lib.hid (HW.out.trans ((HN.out.2.trans (hb1.mono HN.out.2.size)).mono hzw)); have HO1 := Lib.hid (own_bl HOW.out (HN.out.2.trans (hb1.mono HN.out.2.size))); clear x0 x1 x2 x3 hb1; obtain ⟨x0, x1, x2, x3⟩ := cells4 HX1.out)))
  go_ret2
  exact wout_no rfl HB1.out
set_option maxHeartbeats 4000000 in
theorem write_bulk (x : T) (d : Nat) (A : Option Addr) (c : Nat) (v : Value) (m : Nat) (bs : List UInt8) (w0 w : World) (hk : x.k = 4) (hbr : bareB x = true) (hT : Tab w0) (hb : Below w0.heap.size w0 w) (hO : w.ownsRow w0.heap.size 5 1 v m (bcs bs)) (hm : m + x.t.size + 64 ≤ 140737488355328) :
    Calls Tryd.prog 23 #[v, tV x.k x.z x.t A x.l.length c, .int .i64 d] w (WOut (enc d x) bs w0.heap.size w0) := by
  have HP := Lib.hid (fun wx => pbare_is x A c wx)
  rw [hbr] at HP
  have HE := Lib.hid (enc_4 (d := d) hbr hk)
  have HW := Lib.hid hb
  have HOW := Lib.hid hO
  have HT := Lib.hid hT
  clear hT
  generalize enc d x = r at HE ⊢
  clear hb hO hbr
  have HN := Lib.hid (new1 w #[.int .i64 x.k, .int .i64 x.z, .string x.t, .slice A x.l.length c] 24)
  generalize x.k = k at hk HN HP ⊢
  subst hk
  generalize x.z = z at HN HP ⊢
  generalize x.t = t at HN HP HE hm ⊢
  generalize x.l.length = n at HN HP ⊢
  have HX0 := Lib.hid HN.out.1
  obtain ⟨x0, x1, x2, x3⟩ := cells4 HX0.out
  have hzw := HW.out.size
  by_cases h6 : 65536 < t.size
  · have hr : r = none := by rw [HE.out, if_neg (by omega)]
    subst hr
    have h6b : decide ((65536 : Int) < (t.size : Int)) = true := by simp; omega
    go_enter Tryd.func23, Tryd.ntmps23
    go_wp2_with ((go_at_call 27; refine Calls.mono (HP.out _) ?_; (rintro e w1 ⟨rfl, hb1⟩; have HX1 := Lib.hid (keep_blk hb1 HX0.out); have HB1 := Lib.hid (HW.out.trans ((HN.out.2.trans (hb1.mono HN.out.2.size)).mono hzw)); have HO1 := Lib.hid (own_bl HOW.out (HN.out.2.trans (hb1.mono HN.out.2.size))); clear x0 x1 x2 x3 hb1; obtain ⟨x0, x1, x2, x3⟩ := cells4 HX1.out)))
    go_ret2
    exact wout_no rfl HB1.out
  · have h6b : decide ((65536 : Int) < (t.size : Int)) = false := by simp; omega
    have hds := dec_size (t.size : Int) (by omega) (by omega)
    have hr : r = some ((⟨#[36]⟩ ++ dec (t.size : Int) ++ ⟨#[13, 10]⟩ ++ t ++ ⟨#[13, 10]⟩ : ByteArray).toList) := by
      rw [HE.out, if_pos (by omega), toList_app, toList_app, toList_app, toList_app, dollar_list, crlf_list, dec_list]; simp
    have HR := Lib.hid hr
    have hss : (⟨#[36]⟩ ++ dec (t.size : Int) ++ ⟨#[13, 10]⟩ ++ t ++ ⟨#[13, 10]⟩ : ByteArray).size ≤ t.size + 26 := by
      simp only [ByteArray.size_append]
      show 1 + (dec (t.size : Int)).size + 2 + t.size + 2 ≤ _
      omega
    obtain ⟨S, hS⟩ : ∃ S, S = (⟨#[36]⟩ ++ dec (t.size : Int) ++ ⟨#[13, 10]⟩ ++ t ++ ⟨#[13, 10]⟩ : ByteArray) := ⟨_, rfl⟩
    have HS := Lib.hid hS
    clear hr hS h6
    have h65 : t.size ≤ 65536 := by simp at h6b; omega
    have hc1 : ¬ 9223372036854775807 < 1 + (dec (t.size : Int)).size := by omega
    have hc2 : ¬ 9223372036854775807 < 1 + (dec (t.size : Int)).size + 2 := by omega
    have hc3 : ¬ 9223372036854775807 < 1 + (dec (t.size : Int)).size + 2 + t.size := by omega
    have hc4 : ¬ 9223372036854775807 < 1 + (dec (t.size : Int)).size + 2 + t.size + 2 := by omega
    go_enter Tryd.func23, Tryd.ntmps23
    go_wp2_with ((go_at_call 27; refine Calls.mono (HP.out _) ?_; (rintro e w1 ⟨rfl, hb1⟩; have HX1 := Lib.hid (keep_blk hb1 HX0.out); have HB1 := Lib.hid (HW.out.trans ((HN.out.2.trans (hb1.mono HN.out.2.size)).mono hzw)); have HO1 := Lib.hid (own_bl HOW.out (HN.out.2.trans (hb1.mono HN.out.2.size))); clear x0 x1 x2 x3 hb1; obtain ⟨x0, x1, x2, x3⟩ := cells4 HX1.out)))
    have hz1' := HB1.out.size
    have hB1 := HB1.out
    have hk1 := lt_of_blk HX1.out
    go_region_law
      (first
        | (refine Own.step_append_run rfl (.tmp 61) (.tmp 71) 42 9 rfl v (.string (⟨#[36]⟩ ++ dec (t.size : Int) ++ ⟨#[13, 10]⟩ ++ t ++ ⟨#[13, 10]⟩)) rfl rfl _ (app_str (B := w0.heap.size) _ (by exact HO7.out) (by omega) (by first | omega | (simp; omega) | (simp only [alloc_sz, drew_sz]; omega))) ?_; (rintro v4 w4 ⟨hO4, hG4⟩; have HO4 := Lib.hid hO4; have HB4 := Lib.hid (below_own (w0 := w0) (B := w0.heap.size) (by ((repeat (first | exact Below.refl _ _ | (refine Below.drew ?_) | (refine Go.below_drewN ?_ _) | (refine Below.alloc ?_ (by first | (simp; done) | omega | (simp; omega)) _) | (refine Below.setCell ?_ (by first | (simp; done) | omega | (simp; omega)) _) | (refine Below.trans ?_ (Below.mono (by assumption) (by first | (simp; done) | omega | (simp; omega)))))); done)) (by exact HO7.out) hG4 (by first | omega | (simp; omega) | (simp only [alloc_sz, drew_sz]; omega))); clear hO4 hG4))
        | ((fail_if_success (have := hB7)); go_simp; go_at_call 29; refine Calls.mono (itoa_is (t.size : Int) _ (by omega) (by omega) (HT.out.keep ?_)) ?_; (focus ((repeat (first | exact Below.refl _ _ | (refine Below.drew ?_) | (refine Go.below_drewN ?_ _) | (refine Below.alloc ?_ (by first | (simp; done) | omega | (simp; omega)) _) | (refine Below.setCell ?_ (by first | (simp; done) | omega | (simp; omega)) _) | (refine Below.trans ?_ (Below.mono (by assumption) (by first | (simp; done) | omega | (simp; omega)))))); done)); (rintro e w7 ⟨rfl, hb7⟩; have hB7 : RowKit.Below w0.heap.size w0 w7 := (by ((repeat (first | exact Below.refl _ _ | (refine Below.drew ?_) | (refine Go.below_drewN ?_ _) | (refine Below.alloc ?_ (by first | (simp; done) | omega | (simp; omega)) _) | (refine Below.setCell ?_ (by first | (simp; done) | omega | (simp; omega)) _) | (refine Below.trans ?_ (Below.mono (by assumption) (by first | (simp; done) | omega | (simp; omega)))))); done)); have HX7 := Lib.hid (keep_blk hb7 (by exact HX1.out)); have HO7 := Lib.hid (own_bl (by exact HO1.out) hb7); have hz7 := hB7.size; have hk7 := lt_of_blk HX7.out; clear x0 x1 x2 x3; obtain ⟨x0, x1, x2, x3⟩ := cells4 HX7.out; (try go_simp))))
    all_goals
      go_wp2_with fail
      go_ret2
      exact wout_yes HR.out HO4.out HB4.out
end Go.Proofs.YteghfinngilfgaaDoor.T
