import Derived.Deep.DeepCutAuto
import Derived.Laws.OwnMore
import Derived.OwnWalk
import Derived.Lib.AppendStr
import Derived.Lib.SliceRun
import Derived.Lib.SmallJoins
import Derived.IntWalk
import Derived.Lib.ItoaLen
import Derived.WalkMore
import Derived.Lib.AtoiAllCases
import Derived.Lib.OthersKept
import Derived.Laws.Runes
import Derived.Deep.LoopGhost
import Derived.Deep.RegionLaw
import Derived.Deep.AppendLies
import Derived.Test.YteghfinngilfgaaDoorProg
import Derived.Test.YteghfinngilfgaaDoorMem
import Derived.Test.YteghfinngilfgaaDoorYm
import Derived.Test.YteghfinngilfgaaDoorYz
import Derived.Test.YteghfinngilfgaaDoorYy
import Derived.Test.YteghfinngilfgaaDoorZc
import Derived.WalkKit
import Derived.Outline
import Derived.WalkLawsBesides
import Derived.Deep.QuietTactic
import Derived.BigQuiet
import Derived.Lib.Hide
import Derived.Handy
import Derived.Deep.RegionHeld3
import Derived.Deep.DrawnRows
import Derived.KernelRfl
import Derived.Great.Walk
import Derived.Test.YteghfinngilfgaaDoorOwn
namespace Go.Proofs.YteghfinngilfgaaDoor.T
open Go Go.RowKit Go.Sort Mem Own
set_option maxRecDepth 100000
set_option maxHeartbeats 1000000
set_option linter.unusedVariables false
set_option linter.unusedSimpArgs false

/-- What ref04.encode leaves. -/
def REout (r : Option (List UInt8)) (e : Ending) : Prop := ∃ (s : ByteArray) (ok : Bool), e = .returned (.tuple #[.string s, .bool ok]) ∧ ((r = none ∧ ok = false) ∨ (r = some s.toList ∧ ok = true))
theorem reout_no {r : Option (List UInt8)} {s : ByteArray} (h : r = none) : REout r (.returned (.tuple #[.string s, .bool false])) := ⟨_, _, rfl, .inl ⟨h, rfl⟩⟩
theorem reout_yes {r : Option (List UInt8)} {s : ByteArray} (h : r = some s.toList) : REout r (.returned (.tuple #[.string s, .bool true])) := ⟨_, _, rfl, .inr ⟨h, rfl⟩⟩
theorem reout_if {r : Option (List UInt8)} {s : ByteArray} {p : Bool} {b : List UInt8} (h : r = if p = true then some b else none) (hs : s.toList = b) : REout r (.returned (.tuple #[.string s, .bool p])) := by
  cases p with
  | true => exact reout_yes (by rw [h, hs]; rfl)
  | false => exact reout_no (by rw [h]; rfl)
theorem plus_list : (⟨#[43]⟩ : ByteArray).toList = [43] := by decide +kernel
theorem minus_list : (⟨#[45]⟩ : ByteArray).toList = [45] := by decide +kernel
theorem colon_list : (⟨#[58]⟩ : ByteArray).toList = [58] := by decide +kernel
theorem nil_list : (⟨#[36, 45, 49, 13, 10]⟩ : ByteArray).toList = [36, 45, 49, 13, 10] := by decide +kernel
theorem renc_bare (x : T) (d : Nat) (A : Option Addr) (c : Nat) (w : World) (hbr : bareB x = false) :
    Calls Tryd.prog 24 #[tV x.k x.z x.t A x.l.length c, .int .i64 d] w fun e w' => REout (enc d x) e ∧ Below w.heap.size w w' := by
  have HP := Lib.hid (fun wx => rbare_is x A c wx)
  rw [hbr] at HP
  rw [enc_bare hbr]
  have HN := Lib.hid (new1 w #[.int .i64 x.k, .int .i64 x.z, .string x.t, .slice A x.l.length c] 24)
  generalize x.k = k at HN HP ⊢
  generalize x.z = z at HN HP ⊢
  generalize x.t = t at HN HP ⊢
  generalize x.l.length = L at HN HP ⊢
  clear hbr
  obtain ⟨x0, x1, x2, x3⟩ := cells4 HN.out.1
  go_enter Tryd.func24, Tryd.ntmps24
  go_wp2_with (go_at_call 30; refine Calls.mono (HP.out _) ?_; (rintro e w1 ⟨rfl, hb1⟩; have HB1 := Lib.hid (HN.out.2.trans (hb1.mono HN.out.2.size)); clear x0 x1 x2 x3 hb1))
  go_ret2
  exact ⟨reout_no rfl, HB1.out⟩
theorem renc_1 (x : T) (d : Nat) (A : Option Addr) (c : Nat) (w : World) (hk : x.k = 1) (hbr : bareB x = true) (ht : x.t.size ≤ 1000000) (hz0 : -9223372036854775808 ≤ x.z) (hz1 : x.z ≤ 9223372036854775807) :
    Calls Tryd.prog 24 #[tV x.k x.z x.t A x.l.length c, .int .i64 d] w fun e w' => REout (enc d x) e ∧ Below w.heap.size w w' := by
  have HP := Lib.hid (fun wx => rbare_is x A c wx)
  rw [hbr] at HP
  have HE := Lib.hid (enc_1 (d := d) hbr hk)
  have HN := Lib.hid (new1 w #[.int .i64 x.k, .int .i64 x.z, .string x.t, .slice A x.l.length c] 24)
  generalize enc d x = r at HE ⊢
  generalize x.k = k at hk HN HP ⊢
  subst hk
  generalize x.z = z at HN HP hz0 hz1 ⊢
  generalize x.t = t at HN HP HE ht ⊢
  generalize x.l.length = L at HN HP ⊢
  clear hbr
  obtain ⟨x0, x1, x2, x3⟩ := cells4 HN.out.1
  have HQ := Lib.hid (fun wx => (rplain_is t wx (by omega)).mono (R' := fun e w' => e = .returned (.bool (plainB t)) ∧ wx = w') (fun e w' h => ⟨h.1, h.2.symm⟩))
  have hc1 : ¬ 9223372036854775807 < 1 + t.size := by omega
  have hc2 : ¬ 9223372036854775807 < 1 + t.size + 2 := by omega
  go_enter Tryd.func24, Tryd.ntmps24
  go_wp2_with (go_at_call 30; refine Calls.mono (HP.out _) ?_; (rintro e w1 ⟨rfl, hb1⟩; have HX1 := Lib.hid (keep_blk hb1 HN.out.1); have HB1 := Lib.hid (HN.out.2.trans (hb1.mono HN.out.2.size)); clear x0 x1 x2 x3 hb1; obtain ⟨x0, x1, x2, x3⟩ := cells4 HX1.out))
  go_region_with ((go_at_call 31; refine Calls.mono (HQ.out _) ?_; rintro e w2 ⟨rfl, rfl⟩))
  all_goals
    go_wp2_with fail
    go_ret2
    exact ⟨reout_if HE.out (by rw [toList_app, toList_app, plus_list, crlf_list]; simp), Below.drew HB1.out⟩
theorem renc_2 (x : T) (d : Nat) (A : Option Addr) (c : Nat) (w : World) (hk : x.k = 2) (hbr : bareB x = true) (ht : x.t.size ≤ 1000000) (hz0 : -9223372036854775808 ≤ x.z) (hz1 : x.z ≤ 9223372036854775807) :
    Calls Tryd.prog 24 #[tV x.k x.z x.t A x.l.length c, .int .i64 d] w fun e w' => REout (enc d x) e ∧ Below w.heap.size w w' := by
  have HP := Lib.hid (fun wx => rbare_is x A c wx)
  rw [hbr] at HP
  have HE := Lib.hid (enc_2 (d := d) hbr hk)
  have HN := Lib.hid (new1 w #[.int .i64 x.k, .int .i64 x.z, .string x.t, .slice A x.l.length c] 24)
  generalize enc d x = r at HE ⊢
  generalize x.k = k at hk HN HP ⊢
  subst hk
  generalize x.z = z at HN HP hz0 hz1 ⊢
  generalize x.t = t at HN HP HE ht ⊢
  generalize x.l.length = L at HN HP ⊢
  clear hbr
  obtain ⟨x0, x1, x2, x3⟩ := cells4 HN.out.1
  have HQ := Lib.hid (fun wx => (rplain_is t wx (by omega)).mono (R' := fun e w' => e = .returned (.bool (plainB t)) ∧ wx = w') (fun e w' h => ⟨h.1, h.2.symm⟩))
  have hc1 : ¬ 9223372036854775807 < 1 + t.size := by omega
  have hc2 : ¬ 9223372036854775807 < 1 + t.size + 2 := by omega
  go_enter Tryd.func24, Tryd.ntmps24
  go_wp2_with (go_at_call 30; refine Calls.mono (HP.out _) ?_; (rintro e w1 ⟨rfl, hb1⟩; have HX1 := Lib.hid (keep_blk hb1 HN.out.1); have HB1 := Lib.hid (HN.out.2.trans (hb1.mono HN.out.2.size)); clear x0 x1 x2 x3 hb1; obtain ⟨x0, x1, x2, x3⟩ := cells4 HX1.out))
  go_region_with ((go_at_call 31; refine Calls.mono (HQ.out _) ?_; rintro e w2 ⟨rfl, rfl⟩))
  all_goals
    go_wp2_with fail
    go_ret2
    exact ⟨reout_if HE.out (by rw [toList_app, toList_app, minus_list, crlf_list]; simp), Below.drew HB1.out⟩
theorem renc_3 (x : T) (d : Nat) (A : Option Addr) (c : Nat) (w : World) (hk : x.k = 3) (hbr : bareB x = true) (ht : x.t.size ≤ 1000000) (hz0 : -9223372036854775808 ≤ x.z) (hz1 : x.z ≤ 9223372036854775807) :
    Calls Tryd.prog 24 #[tV x.k x.z x.t A x.l.length c, .int .i64 d] w fun e w' => REout (enc d x) e ∧ Below w.heap.size w w' := by
  have HP := Lib.hid (fun wx => rbare_is x A c wx)
  rw [hbr] at HP
  have HE := Lib.hid (enc_3 (d := d) hbr hk)
  have HN := Lib.hid (new1 w #[.int .i64 x.k, .int .i64 x.z, .string x.t, .slice A x.l.length c] 24)
  generalize enc d x = r at HE ⊢
  generalize x.k = k at hk HN HP ⊢
  subst hk
  generalize x.z = z at HN HP HE hz0 hz1 ⊢
  generalize x.t = t at HN HP ht ⊢
  generalize x.l.length = L at HN HP ⊢
  clear hbr
  obtain ⟨x0, x1, x2, x3⟩ := cells4 HN.out.1
  have hds := dec_size z hz0 hz1
  have HD := Lib.hid (fun wx => digits_is z wx hz0 hz1)
  have hdl := dec_list z
  generalize dec z = q at hds HD hdl
  have hc1 : ¬ 9223372036854775807 < 1 + q.size := by omega
  have hc2 : ¬ 9223372036854775807 < 1 + q.size + 2 := by omega
  have HDL := Lib.hid hdl
  clear hdl
  go_enter Tryd.func24, Tryd.ntmps24
  go_wp2_with (first
    | (go_at_call 30; refine Calls.mono (HP.out _) ?_; (rintro e w1 ⟨rfl, hb1⟩; have HX1 := Lib.hid (keep_blk hb1 HN.out.1); have HB1 := Lib.hid (HN.out.2.trans (hb1.mono HN.out.2.size)); clear x0 x1 x2 x3 hb1; obtain ⟨x0, x1, x2, x3⟩ := cells4 HX1.out))
    | (go_at_call 32; refine Calls.mono (HD.out _) ?_; (rintro e w2 ⟨rfl, hb2⟩; have HB2 := Lib.hid (HB1.out.trans (hb2.mono HB1.out.size)); clear hb2)))
  go_ret2
  exact ⟨reout_yes (by rw [HE.out, toList_app, toList_app, colon_list, crlf_list, HDL.out]; simp), HB2.out⟩
theorem renc_5 (x : T) (d : Nat) (A : Option Addr) (c : Nat) (w : World) (hk : x.k = 5) (hbr : bareB x = true) (ht : x.t.size ≤ 1000000) (hz0 : -9223372036854775808 ≤ x.z) (hz1 : x.z ≤ 9223372036854775807) :
    Calls Tryd.prog 24 #[tV x.k x.z x.t A x.l.length c, .int .i64 d] w fun e w' => REout (enc d x) e ∧ Below w.heap.size w w' := by
  have HP := Lib.hid (fun wx => rbare_is x A c wx)
  rw [hbr] at HP
  have HE := Lib.hid (enc_5 (d := d) hbr hk)
  have HN := Lib.hid (new1 w #[.int .i64 x.k, .int .i64 x.z, .string x.t, .slice A x.l.length c] 24)
  generalize enc d x = r at HE ⊢
  generalize x.k = k at hk HN HP ⊢
  subst hk
  generalize x.z = z at HN HP hz0 hz1 ⊢
  generalize x.t = t at HN HP ht ⊢
  generalize x.l.length = L at HN HP ⊢
  clear hbr
  obtain ⟨x0, x1, x2, x3⟩ := cells4 HN.out.1
  go_enter Tryd.func24, Tryd.ntmps24
  go_wp2_with (go_at_call 30; refine Calls.mono (HP.out _) ?_; (rintro e w1 ⟨rfl, hb1⟩; have HX1 := Lib.hid (keep_blk hb1 HN.out.1); have HB1 := Lib.hid (HN.out.2.trans (hb1.mono HN.out.2.size)); clear x0 x1 x2 x3 hb1; obtain ⟨x0, x1, x2, x3⟩ := cells4 HX1.out))
  go_ret2
  exact ⟨reout_yes (by rw [HE.out, nil_list]), HB1.out⟩
theorem renc_no (x : T) (d : Nat) (A : Option Addr) (c : Nat) (w : World) (hbr : bareB x = true) (h1 : ¬ x.k = 1) (h2 : ¬ x.k = 2) (h3 : ¬ x.k = 3) (h4 : ¬ x.k = 4) (h5 : ¬ x.k = 5) (h6 : ¬ x.k = 6) :
    Calls Tryd.prog 24 #[tV x.k x.z x.t A x.l.length c, .int .i64 d] w fun e w' => REout (enc d x) e ∧ Below w.heap.size w w' := by
  have HP := Lib.hid (fun wx => rbare_is x A c wx)
  rw [hbr] at HP
  rw [enc_no h1 h2 h3 h4 h5 h6]
  have HN := Lib.hid (new1 w #[.int .i64 x.k, .int .i64 x.z, .string x.t, .slice A x.l.length c] 24)
  generalize x.k = k at h1 h2 h3 h4 h5 h6 HN HP ⊢
  generalize x.z = z at HN HP ⊢
  generalize x.t = t at HN HP ⊢
  generalize x.l.length = L at HN HP ⊢
  clear hbr
  have k1 : (k == 1) = false := by simpa using h1
  have k2 : (k == 2) = false := by simpa using h2
  have k3 : (k == 3) = false := by simpa using h3
  have k4 : (k == 4) = false := by simpa using h4
  have k5 : (k == 5) = false := by simpa using h5
  have k6 : (k == 6) = false := by simpa using h6
  obtain ⟨x0, x1, x2, x3⟩ := cells4 HN.out.1
  go_enter Tryd.func24, Tryd.ntmps24
  go_wp2_with (go_at_call 30; refine Calls.mono (HP.out _) ?_; (rintro e w1 ⟨rfl, hb1⟩; have HX1 := Lib.hid (keep_blk hb1 HN.out.1); have HB1 := Lib.hid (HN.out.2.trans (hb1.mono HN.out.2.size)); clear x0 x1 x2 x3 hb1; obtain ⟨x0, x1, x2, x3⟩ := cells4 HX1.out))
  go_ret2
  exact ⟨reout_no rfl, HB1.out⟩
end Go.Proofs.YteghfinngilfgaaDoor.T
