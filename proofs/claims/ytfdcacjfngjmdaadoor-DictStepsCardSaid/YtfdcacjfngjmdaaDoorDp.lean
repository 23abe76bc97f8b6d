import Derived.Deep.DeepCutAuto
import Derived.Laws.OwnMore
import Derived.OwnWalk
import Derived.Lib.AppendStr
import Derived.Lib.SliceRun
import Derived.Lib.SmallJoins
import Derived.IntWalk
import Derived.WalkMore
import Derived.Lib.OthersKept
import Derived.Deep.LoopGhost
import Derived.Deep.RegionLaw
import Derived.Deep.AppendLies
import Derived.Test.YtfdcacjfngjmdaaDoorProg
import Derived.Test.YtfdcacjfngjmdaaDoorMem
import Derived.Test.YtfdcacjfngjmdaaDoorBlk
import Derived.Test.YtfdcacjfngjmdaaDoorAp
import Derived.Test.YtfdcacjfngjmdaaDoorDo
import Derived.WalkKit
import Derived.Outline
import Derived.WalkLawsBesides
import Derived.Deep.QuietTactic
import Derived.BigQuiet
import Derived.Lib.Hide
import Derived.Handy
import Derived.Deep.RegionHeld3
import Derived.Deep.DrawnRows
import Derived.KernelRfl
import Derived.Great.Walk
import Derived.Test.YtfdcacjfngjmdaaDoorOwn
namespace Go.Proofs.YtfdcacjfngjmdaaDoor.T
open Go Go.RowKit Go.Sort Mem Own
set_option maxRecDepth 100000
set_option maxHeartbeats 1000000
set_option linter.unusedVariables false
set_option linter.unusedSimpArgs false

/-- What a round of DictGeneric does. -/
def pg (m : Dm) (s x : ByteArray) : Dm := ((m.step.put s (.string x)).step.put s (.string s))
theorem pg_get {K : Nat} {m : Dm} (h : Inv K m) (s x : ByteArray) (hs : s.size ≤ maxLen) : Inv (K + 1) (m.step.put s (.string x)) ∧ Inv (K + 2) (pg m s x) ∧ ∀ t, (pg m s x).get t = if s.toList = t.toList then some (.string s) else m.get t := by
  obtain ⟨h1, g1⟩ := put_get h.step (t := s) (.string x) rfl hs
  obtain ⟨h2, g2⟩ := put_get h1.step (t := s) (.string s) rfl hs
  refine ⟨h1, h2, fun t => ?_⟩
  unfold pg
  rw [g2 t]
  by_cases e : s.toList = t.toList
  · rw [if_pos e, if_pos e]
  · rw [if_neg e, if_neg e, step_get h1, g1 t, if_neg e, step_get h]
/-- DictGeneric. -/
theorem generic_is (A : Option Addr) (l : List ByteArray) (c : Nat) (w : World) (ha : Rd w A l) (hs : ∀ x ∈ l, x.size ≤ 1000000000000000) (hn : l.length ≤ maxLen) (hh : Hv w) :
    Calls Tryd.prog 3 #[.slice A l.length c] w fun e w' => e = .returned (.bool true) ∧ Below w.heap.size w w' := by
  have h0 : 0 < w.heap.size := lt_of_cell (hh 0 (by decide))
  have HNW := Lib.hid (newS_is w.heap.size (fun _ => (0, 0, 0)) w (Nat.le_refl _))
  have HH := Lib.hid hh
  have HA := Lib.hid ha
  have HS := Lib.hid hs
  obtain ⟨L, hL⟩ : ∃ L, L = l.length := ⟨_, rfl⟩
  have hL1 : L ≤ 9223372036854775807 := by rw [hL]; exact hn
  have HLL := Lib.hid hL
  have HAL := Lib.hid (fun (wx : World) (hb : Below w.heap.size w wx) => alive_is wx (HH.out.keep hb h0))
  rw [← hL]
  clear hh ha hs hL hn
  go_enter Tryd.func3, Tryd.ntmps3
  go_upto_region 2 with (go_at_call 9; refine Calls.mono HNW.out ?_; rintro e w1 ⟨g, b1, ow1, rfl, hg, hd1, hc1⟩; have HD1 := Lib.hid hd1; have HC1 := Lib.hid hc1.below; clear hd1 hc1)
  clear HNW
  have hz1 := HC1.out.size
  by_cases hbig : L > 600
  · have hd1 : decide ((L : Int) > 600) = true := decide_eq_true (by omega)
    have hd2 : (600 : Int) < (L : Int) := by omega
    go_wp2_with (go_at_call 10; refine Calls.mono (HAL.out _ HC1.out) ?_; rintro e w2 ⟨rfl, hb2⟩; have HB2 := Lib.hid (HC1.out.trans (hb2.mono hz1)); clear hb2)
    go_ret
    exact ⟨rfl, HB2.out⟩
  have hd1 : decide ((L : Int) > 600) = false := decide_eq_false (by omega)
  have hd2 : ¬ (600 : Int) < (L : Int) := by omega
  go_wp2_with fail
  go_loopw [23] (fun s23 wr => ∃ (i : Nat) (m : Dm) (ow2 : Ow) (gn go : Nat) (nv ov : List Value), i ≤ L ∧ s23 = .int .i64 i ∧ RowKit.Hid (Inv (2 * i) m) ∧ RowKit.Hid (∀ j (hj : j < l.length), j < i → m.get l[j] = some (.string l[j])) ∧ RowKit.Hid (DR wr w.heap.size 64 70 69 g ow2 m gn go nv ov) ∧ RowKit.Hid (Below w.heap.size w wr)) (fun s23 _ => L - (intOf s23).toNat)
  case atStart => exact ⟨0, Dm.new, ow1, b1, 0, _, _, Nat.zero_le _, rfl, Lib.hid Inv.new, Lib.hid (fun j _ h => by omega), HD1, HC1⟩
  case round =>
    obtain ⟨i, m, ow2, gn, go, nv, ov, hiL, rfl, HI, HG, HDR, HB⟩ := hrel
    have hzr := HB.out.size
    by_cases hlt : i < L
    · have hlt2 := Lib.hid (show i < l.length by rw [← HLL.out]; exact hlt)
      have hlt3 := Lib.hid (show i / 2 < l.length by have := hlt2.out; omega)
      obtain ⟨b9, o9, rfl⟩ := HA.out.addr (by have := hlt2.out; omega)
      have ha2 := HA.out.below HB.out
      have q1 := ha2.cell hlt2.out
      have HQ2 := Lib.hid (fun (wx : World) (hb : Below w.heap.size w wx) => (HA.out.below hb).cell hlt3.out)
      have hsz := HS.out _ (List.getElem_mem hlt2.out)
      have hsz3 := HS.out _ (List.getElem_mem hlt3.out)
      have HGN := Lib.hid (fun (x : ByteArray) (j : Nat) (hj : j < l.length) (hji : j < i + 1) => (by
        rw [(pg_get HI.out (l[i]'hlt2.out) x (by unfold maxLen; omega)).2.2 l[j]]
        by_cases e : (l[i]'hlt2.out).toList = l[j].toList
        · rw [if_pos e, ba_inj e]
        · rw [if_neg e]
          exact HG.out j hj (by
            rcases Nat.lt_or_ge j i with h | h
            · exact h
            · obtain rfl : j = i := by omega
              exact absurd rfl e) : (pg m (l[i]'hlt2.out) x).get l[j] = some (.string l[j])))
      have HGT := Lib.hid (fun (x : ByteArray) => (by
        unfold Dm.gets; rw [HGN.out x (i / 2) hlt3.out (by omega)] : (pg m (l[i]'hlt2.out) x).gets (l[i / 2]'hlt3.out) (.string ⟨#[]⟩) = (.string (l[i / 2]'hlt3.out), true)))
      generalize l[i]'hlt2.out = s at q1 hsz HGN HGT
      generalize l[i / 2]'hlt3.out = u at HQ2 hsz3 HGT
      have hdv : ((i : Int) / 2) = ((i / 2 : Nat) : Int) := by omega
      have hi2 : i / 2 < L := by omega
      have hqe : (i : Int).tdiv 2 = ((i / 2 : Nat) : Int) := by rw [Int.tdiv_eq_ediv_of_nonneg (by omega)]; omega
      have hqf : IntKind.i64.wrap ((i / 2 : Nat) : Int) = ((i / 2 : Nat) : Int) := wrap_small _ (by omega) (by omega)
      clear hdv
      have hsm : s.size ≤ maxLen := by unfold maxLen; omega
      have HP1 := Lib.hid (fun (x : ByteArray) (wx : World) (hd : DR wx w.heap.size 64 70 69 g ow2 m gn go nv ov) (hv : Hv wx) => putS_is w.heap.size g gn go (2 * i) ow2 m nv ov s x wx hd HI.out HI.out.step (by omega) (by omega) hv h0)
      have HP2 := Lib.hid (fun (x : ByteArray) (ow3 : Ow) (gn3 go3 : Nat) (nv3 ov3 : List Value) (wx : World) (hd : DR wx w.heap.size 64 70 69 g ow3 (m.step.put s (.string x)) gn3 go3 nv3 ov3) (hv : Hv wx) => putS_is w.heap.size g gn3 go3 (2 * i + 1) ow3 _ nv3 ov3 s s wx hd (pg_get HI.out s x hsm).1 (pg_get HI.out s x hsm).1.step (by omega) (by omega) hv h0)
      have HP3 := Lib.hid (fun (x : ByteArray) (ow3 : Ow) (gn3 go3 : Nat) (nv3 ov3 : List Value) (wx : World) (hd : DR wx w.heap.size 64 70 69 g ow3 (pg m s x) gn3 go3 nv3 ov3) (hv : Hv wx) => (by
        have := getS_is w.heap.size g gn3 go3 (2 * i + 2) ow3 (pg m s x) nv3 ov3 u wx hd (pg_get HI.out s x hsm).2.1 (by omega) (by omega) hv
        rw [HGT.out x] at this; exact this : Calls Tryd.prog 12 #[.pointer (some ⟨g, 0, none⟩), .string u] wx fun e w' => e = .returned (.tuple #[.string u, .bool true]) ∧ Below wx.heap.size wx w'))
      have HPI := Lib.hid (fun (x : ByteArray) => (pg_get HI.out s x hsm).2.1)
      have hv0 := Lib.hid (HH.out.keep HB.out h0)
      clear ha2 hsm HGT
      go_wp2_with (first
        | ((fail_if_success (have := HD3)); go_at_call 11; refine Calls.mono (HP1.out _ _ HDR.out hv0.out) ?_; rintro e w3 ⟨rfl, ow3, gn3, go3, nv3, ov3, hd3, hc3⟩; have HD3 := Lib.hid hd3; have HB3 := Lib.hid (HB.out.trans hc3.below); have hz3 := HB3.out.size; have hv3 := Lib.hid (HH.out.keep HB3.out h0); clear hd3 hc3)
        | ((fail_if_success (have := HD4)); go_at_call 11; refine Calls.mono (HP2.out _ _ _ _ _ _ _ HD3.out hv3.out) ?_; rintro e w4 ⟨rfl, ow4, gn4, go4, nv4, ov4, hd4, hc4⟩; have HD4 := Lib.hid hd4; have HB4 := Lib.hid (HB3.out.trans hc4.below); have hz4 := HB4.out.size; have hv4 := Lib.hid (HH.out.keep HB4.out h0); have q4 := HQ2.out _ HB4.out; clear hd4 hc4)
        | (go_at_call 12; refine Calls.mono (HP3.out _ _ _ _ _ _ _ HD4.out hv4.out) ?_; rintro e w5 ⟨rfl, hb5⟩; have HD5 := Lib.hid (HD4.out.below hb5); have HB5 := Lib.hid (HB4.out.trans (hb5.mono hz4)); have q5 := HQ2.out _ HB5.out; clear hb5))
      have e1 : Inv (2 * (i + 1)) (pg m s (s ++ (ByteArray.mk #[33]))) := (HPI.out (s ++ (ByteArray.mk #[33]))).mono (by omega)
      have e5 : DR w5 w.heap.size 64 70 69 g ow4 (pg m s (s ++ (ByteArray.mk #[33]))) gn4 go4 nv4 ov4 := by unfold pg; exact HD5.out
      have e6 : ∀ j (hj : j < l.length), j < i + 1 → (pg m s (s ++ (ByteArray.mk #[33]))).get l[j] = some (.string l[j]) := fun j hj hji => HGN.out (s ++ (ByteArray.mk #[33])) j hj hji
      have E1 := Lib.hid e1
      have E5 := Lib.hid e5
      have E6 := Lib.hid e6
      clear e1 e5 e6 HP1 HP2 HP3 HPI HGN HD3 HD4 HD5
      generalize pg m s (s ++ (ByteArray.mk #[33])) = m2 at E1 E5 E6
      exact ⟨⟨i + 1, m2, ow4, gn4, go4, nv4, ov4, by omega, by go_num, E1, E6, E5, HB5⟩, by simp [intOf]; omega⟩
    · clear HLL
      go_wp2_with (go_at_call 10; refine Calls.mono (HAL.out _ HB.out) ?_; rintro e w2 ⟨rfl, hb2⟩; have HB2 := Lib.hid (HB.out.trans (hb2.mono hzr)); clear hb2)
      go_ret
      exact ⟨rfl, HB2.out⟩
end Go.Proofs.YtfdcacjfngjmdaaDoor.T
