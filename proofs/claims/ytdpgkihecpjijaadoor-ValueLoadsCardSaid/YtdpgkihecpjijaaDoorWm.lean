import Derived.Deep.DeepCutAuto
import Derived.Laws.OwnMore
import Derived.OwnWalk
import Derived.Lib.AppendStr
import Derived.Laws.IdiomStrings
import Derived.Lib.ConvBytes
import Derived.Lib.SmallJoins
import Derived.IntWalk
import Derived.Deep.AppendLies
import Derived.Deep.RegionLaw
import Derived.Test.YtdpgkihecpjijaaDoorProg
import Derived.Test.YtdpgkihecpjijaaDoorMem
import Derived.Test.YtdpgkihecpjijaaDoorVw
import Derived.Test.YtdpgkihecpjijaaDoorVx
import Derived.Test.YtdpgkihecpjijaaDoorWc
import Derived.Test.YtdpgkihecpjijaaDoorWf
import Derived.Test.YtdpgkihecpjijaaDoorWh
import Derived.Test.YtdpgkihecpjijaaDoorWi
import Derived.Test.YtdpgkihecpjijaaDoorWj
import Derived.Test.YtdpgkihecpjijaaDoorWk
import Derived.Test.YtdpgkihecpjijaaDoorWl
import Derived.WalkKit
import Derived.Outline
import Derived.WalkLawsBesides
import Derived.Deep.QuietTactic
import Derived.BigQuiet
import Derived.Lib.Hide
import Derived.Handy
import Derived.Deep.RegionHeld3
import Derived.Deep.DrawnRows
import Derived.KernelRfl
import Derived.Great.Walk
import Derived.Test.YtdpgkihecpjijaaDoorOwn
namespace Go.Proofs.YtdpgkihecpjijaaDoor.T
open Go Go.RowKit Mem Own
set_option maxRecDepth 100000
set_option maxHeartbeats 1000000
set_option linter.unusedVariables false
set_option linter.unusedSimpArgs false

theorem rnames_as (A : Option Addr) (l : List (ByteArray × ByteArray)) (ns : List ByteArray) (c : Nat) (w : World) (ha : RdP w A l) (hn : l.length ≤ 2 ^ 40) (hs : l.map Prod.fst = ns) :
    Calls Tryd.prog 43 #[.slice A l.length c] w (TextsOut ns w) := by subst hs; exact rnames_is A l c w ha hn
theorem rvalues_as (A : Option Addr) (l : List (ByteArray × ByteArray)) (ns : List ByteArray) (c : Nat) (w : World) (ha : RdP w A l) (hn : l.length ≤ 2 ^ 40) (hs : l.map Prod.snd = ns) :
    Calls Tryd.prog 46 #[.slice A l.length c] w (TextsOut ns w) := by subst hs; exact rvalues_is A l c w ha hn
theorem pairs_short (l : List (ByteArray × ByteArray)) : pairsShort l ↔ itemsShort (l.map Prod.fst) ∧ itemsShort (l.map Prod.snd) := by
  unfold pairsShort itemsShort
  constructor
  · intro h
    constructor
    · intro x hx; obtain ⟨p, hp, rfl⟩ := List.mem_map.1 hx; exact (h p hp).1
    · intro x hx; obtain ⟨p, hp, rfl⟩ := List.mem_map.1 hx; exact (h p hp).2
  · intro ⟨h1, h2⟩ p hp; exact ⟨h1 _ (List.mem_map_of_mem hp), h2 _ (List.mem_map_of_mem hp)⟩
theorem pairs_right {l : List (ByteArray × ByteArray)} {ns ms : List ByteArray} (h1 : l.map Prod.fst = ns) (h2 : l.map Prod.snd = ms) :
    (pairsShort l ∧ Srt (l.map Prod.fst) ∧ cnt l.length) ↔ ((itemsShort ns ∧ cnt ns.length) ∧ Srt ns ∧ (itemsShort ms ∧ cnt ms.length)) := by
  subst h1; subst h2
  rw [pairs_short, List.length_map, List.length_map]
  constructor
  · exact fun ⟨⟨a, b⟩, c, d⟩ => ⟨⟨a, d⟩, c, b, d⟩
  · exact fun ⟨⟨a, d⟩, c, b, _⟩ => ⟨⟨a, b⟩, c, d⟩
theorem rright_2 (k : Int) (t : ByteArray) (ps : List (ByteArray × ByteArray)) (is : List ByteArray) (re im : Int) (PA : Option Addr) (pc : Nat) (IA : Option Addr) (ic : Nat) (w : World) (hp : RdP w PA ps) (hi : Rd w IA is) (np : ps.length ≤ 2 ^ 40) (ni : is.length ≤ 2 ^ 40)
  (hk : k = 2) :
    Calls Tryd.prog 19 #[vV k t PA ps.length pc IA is.length ic re im] w (BoolOut (RightV ⟨k, t, ps, is, re, im⟩) w) := by
  have HP := Lib.hid hp; have HI := Lib.hid hi
  have hu := Tryd.underlying25
  clear hp hi
  subst hk
  by_cases ht : t = ⟨#[]⟩
  · subst ht
    by_cases his : is = []
    · subst his
      by_cases hre : re = 0
      · subst hre
        by_cases him : im = 0
        · subst him
          obtain ⟨ns, hns⟩ : ∃ ns, ps.map Prod.fst = ns := ⟨_, rfl⟩
          obtain ⟨ms, hms⟩ : ∃ ms, ps.map Prod.snd = ms := ⟨_, rfl⟩
          have nn : ns.length ≤ 2 ^ 40 := by rw [← hns, List.length_map]; exact np
          have nm : ms.length ≤ 2 ^ 40 := by rw [← hms, List.length_map]; exact np
          have HNS := Lib.hid hns
          have HMS := Lib.hid hms
          have HR := Lib.hid (show RightV ⟨2, ⟨#[]⟩, ps, [], 0, 0⟩ ↔ _ from (right2 rfl rfl).trans (pairs_right hns hms))
          clear hns hms
          have HY0 := Lib.hid (heap_alloc_new w (vO 2 ⟨#[]⟩ PA ps.length pc IA 0 ic 0 0))
          go_enter Tryd.func19, Tryd.ntmps19
          go_upto_region 8 with fail
          go_cut [4] (fun s4 wx => ∃ (A1 : Option Addr) (c1 : Nat), s4 = .slice A1 ns.length c1 ∧ RowKit.Hid (Rd wx A1 ns) ∧ RowKit.Hid (wx.heap[w.heap.size]? = some (.cells #[.int .i64 2, .string ⟨#[]⟩, .slice PA ps.length pc, .slice IA 0 ic, .int .i64 0, .int .i64 0] 27 (0, 0))) ∧ RowKit.Hid (Below w.heap.size w wx))
          case first =>
            go_wp2_with (go_at_call 43; refine Calls.mono (rnames_as _ ps ns _ _ (HP.out.below ?_) np HNS.out) ?_; (focus ((repeat (first | exact Below.refl _ _ | (refine Below.drew ?_) | (refine Go.below_drewN ?_ _) | (refine Below.alloc ?_ (by first | (simp; done) | omega | (simp; omega)) _) | (refine Below.setCell ?_ (by first | (simp; done) | omega | (simp; omega)) _) | (refine Below.trans ?_ (Below.mono (by assumption) (by first | (simp; done) | omega | (simp; omega)))))); done)); rintro e w1 ⟨A1, c1, rfl, HN1, hb1⟩; have hz1 := hb1.size; (try simp at hz1))
            go_meet
            exact ⟨A1, c1, rfl, HN1, Lib.hid (keep_block hb1 (keep_block ((Below.refl _ _).alloc (Nat.le_refl _) _) HY0.out)), Lib.hid (by ((repeat (first | exact Below.refl _ _ | (refine Below.drew ?_) | (refine Go.below_drewN ?_ _) | (refine Below.alloc ?_ (by first | (simp; done) | omega | (simp; omega)) _) | (refine Below.setCell ?_ (by first | (simp; done) | omega | (simp; omega)) _) | (refine Below.trans ?_ (Below.mono (by assumption) (by first | (simp; done) | omega | (simp; omega)))))); done))⟩
          case rest =>
            obtain ⟨A1, c1, rfl, HN1, HBXc, HBc⟩ := hcut
            have hzc := HBc.out.size
            obtain ⟨d0, d1, d2, d3, d4, d5⟩ := facts6 HBXc.out
            by_cases hx : itemsShort ns ∧ cnt ns.length
            · have HX := Lib.hid hx
              clear hx
              by_cases hs : Srt ns
              · have HS := Lib.hid hs
                clear hs
                by_cases hy : itemsShort ms ∧ cnt ms.length
                · have HY := Lib.hid hy
                  clear hy
                  go_wp2_with (first
            | ((fail_if_success (have := hb2)); go_at_call 44; refine Calls.mono (fits_yes _ ns _ _ HN1.out (by unfold maxLen; omega) HX.out) ?_; rintro e w2 ⟨rfl, hb2⟩; have HBX2 := Lib.hid (keep_block hb2 HBXc.out); clear d0 d1 d2 d3 d4 d5; obtain ⟨d0, d1, d2, d3, d4, d5⟩ := facts6 HBX2.out; have HB2 := Lib.hid (HBc.out.trans (hb2.mono hzc)); have hz2 := HB2.out.size)
            | (go_at_call 45; refine Calls.mono (rsright_yes _ ns _ _ (HN1.out.below hb2) (by unfold maxLen; omega) HS.out) ?_; rintro e w3 ⟨rfl, hb3⟩; have HBX3 := Lib.hid (keep_block hb3 HBX2.out); clear d0 d1 d2 d3 d4 d5; obtain ⟨d0, d1, d2, d3, d4, d5⟩ := facts6 HBX3.out; have HB3 := Lib.hid (HB2.out.trans (hb3.mono hz2)); have hz3 := HB3.out.size)
            | (go_at_call 46; refine Calls.mono (rvalues_as _ ps ms _ _ (HP.out.below HB3.out) np HMS.out) ?_; rintro e w4 ⟨A4, c4, rfl, HN4, hb4⟩; have HBX4 := Lib.hid (keep_block hb4 HBX3.out); clear d0 d1 d2 d3 d4 d5; obtain ⟨d0, d1, d2, d3, d4, d5⟩ := facts6 HBX4.out; have HB4 := Lib.hid (HB3.out.trans (hb4.mono hz3)); have hz4 := HB4.out.size)
            | ((fail_if_success (have := hb5)); go_at_call 44; refine Calls.mono (fits_yes _ ms _ _ HN4.out (by unfold maxLen; omega) HY.out) ?_; rintro e w5 ⟨rfl, hb5⟩; have HBX5 := Lib.hid (keep_block hb5 HBX4.out); clear d0 d1 d2 d3 d4 d5; obtain ⟨d0, d1, d2, d3, d4, d5⟩ := facts6 HBX5.out; have HB5 := Lib.hid (HB4.out.trans (hb5.mono hz4)); have hz5 := HB5.out.size))
                  go_ret
                  exact ⟨true, rfl, ⟨fun _ => HR.out.2 ⟨HX.out, HS.out, HY.out⟩, fun _ => rfl⟩, HB5.out⟩
                · have HY := Lib.hid hy
                  clear hy
                  go_wp2_with (first
            | ((fail_if_success (have := hb2)); go_at_call 44; refine Calls.mono (fits_yes _ ns _ _ HN1.out (by unfold maxLen; omega) HX.out) ?_; rintro e w2 ⟨rfl, hb2⟩; have HBX2 := Lib.hid (keep_block hb2 HBXc.out); clear d0 d1 d2 d3 d4 d5; obtain ⟨d0, d1, d2, d3, d4, d5⟩ := facts6 HBX2.out; have HB2 := Lib.hid (HBc.out.trans (hb2.mono hzc)); have hz2 := HB2.out.size)
            | (go_at_call 45; refine Calls.mono (rsright_yes _ ns _ _ (HN1.out.below hb2) (by unfold maxLen; omega) HS.out) ?_; rintro e w3 ⟨rfl, hb3⟩; have HBX3 := Lib.hid (keep_block hb3 HBX2.out); clear d0 d1 d2 d3 d4 d5; obtain ⟨d0, d1, d2, d3, d4, d5⟩ := facts6 HBX3.out; have HB3 := Lib.hid (HB2.out.trans (hb3.mono hz2)); have hz3 := HB3.out.size)
            | (go_at_call 46; refine Calls.mono (rvalues_as _ ps ms _ _ (HP.out.below HB3.out) np HMS.out) ?_; rintro e w4 ⟨A4, c4, rfl, HN4, hb4⟩; have HBX4 := Lib.hid (keep_block hb4 HBX3.out); clear d0 d1 d2 d3 d4 d5; obtain ⟨d0, d1, d2, d3, d4, d5⟩ := facts6 HBX4.out; have HB4 := Lib.hid (HB3.out.trans (hb4.mono hz3)); have hz4 := HB4.out.size)
            | ((fail_if_success (have := hb5)); go_at_call 44; refine Calls.mono (fits_no _ ms _ _ HN4.out (by unfold maxLen; omega) HY.out) ?_; rintro e w5 ⟨rfl, hb5⟩; have HBX5 := Lib.hid (keep_block hb5 HBX4.out); clear d0 d1 d2 d3 d4 d5; obtain ⟨d0, d1, d2, d3, d4, d5⟩ := facts6 HBX5.out; have HB5 := Lib.hid (HB4.out.trans (hb5.mono hz4)); have hz5 := HB5.out.size))
                  go_ret
                  exact ⟨false, rfl, no_iff fun h => HY.out (HR.out.1 h).2.2, HB5.out⟩
              · have HS := Lib.hid hs
                clear hs
                go_wp2_with (first
            | ((fail_if_success (have := hb2)); go_at_call 44; refine Calls.mono (fits_yes _ ns _ _ HN1.out (by unfold maxLen; omega) HX.out) ?_; rintro e w2 ⟨rfl, hb2⟩; have HBX2 := Lib.hid (keep_block hb2 HBXc.out); clear d0 d1 d2 d3 d4 d5; obtain ⟨d0, d1, d2, d3, d4, d5⟩ := facts6 HBX2.out; have HB2 := Lib.hid (HBc.out.trans (hb2.mono hzc)); have hz2 := HB2.out.size)
            | (go_at_call 45; refine Calls.mono (rsright_no _ ns _ _ (HN1.out.below hb2) (by unfold maxLen; omega) HS.out) ?_; rintro e w3 ⟨rfl, hb3⟩; have HBX3 := Lib.hid (keep_block hb3 HBX2.out); clear d0 d1 d2 d3 d4 d5; obtain ⟨d0, d1, d2, d3, d4, d5⟩ := facts6 HBX3.out; have HB3 := Lib.hid (HB2.out.trans (hb3.mono hz2)); have hz3 := HB3.out.size))
                go_ret
                exact ⟨false, rfl, no_iff fun h => HS.out (HR.out.1 h).2.1, HB3.out⟩
            · have HX := Lib.hid hx
              clear hx
              go_wp2_with (first
            | ((fail_if_success (have := hb2)); go_at_call 44; refine Calls.mono (fits_no _ ns _ _ HN1.out (by unfold maxLen; omega) HX.out) ?_; rintro e w2 ⟨rfl, hb2⟩; have HBX2 := Lib.hid (keep_block hb2 HBXc.out); clear d0 d1 d2 d3 d4 d5; obtain ⟨d0, d1, d2, d3, d4, d5⟩ := facts6 HBX2.out; have HB2 := Lib.hid (HBc.out.trans (hb2.mono hzc)); have hz2 := HB2.out.size))
              go_ret
              exact ⟨false, rfl, no_iff fun h => HX.out (HR.out.1 h).1, HB2.out⟩
        · skip
          have NE := Lib.hid (show ¬ RightV _ from fun h => by have e := congrArg Vl.im h.1; simp [bareV] at e; exact him e : ¬ RightV ⟨2, ⟨#[]⟩, ps, [], 0, im⟩)
          go_enter Tryd.func19, Tryd.ntmps19
          go_wp2
          go_ret
          exact ⟨false, rfl, no_iff NE.out, (by ((repeat (first | exact Below.refl _ _ | (refine Below.drew ?_) | (refine Go.below_drewN ?_ _) | (refine Below.alloc ?_ (by first | (simp; done) | omega | (simp; omega)) _) | (refine Below.setCell ?_ (by first | (simp; done) | omega | (simp; omega)) _) | (refine Below.trans ?_ (Below.mono (by assumption) (by first | (simp; done) | omega | (simp; omega)))))); done))⟩
      · skip
        have NE := Lib.hid (show ¬ RightV _ from fun h => by have e := congrArg Vl.re h.1; simp [bareV] at e; exact hre e : ¬ RightV ⟨2, ⟨#[]⟩, ps, [], re, im⟩)
        go_enter Tryd.func19, Tryd.ntmps19
        go_wp2
        go_ret
        exact ⟨false, rfl, no_iff NE.out, (by ((repeat (first | exact Below.refl _ _ | (refine Below.drew ?_) | (refine Go.below_drewN ?_ _) | (refine Below.alloc ?_ (by first | (simp; done) | omega | (simp; omega)) _) | (refine Below.setCell ?_ (by first | (simp; done) | omega | (simp; omega)) _) | (refine Below.trans ?_ (Below.mono (by assumption) (by first | (simp; done) | omega | (simp; omega)))))); done))⟩
    · have x3 : 0 < is.length := List.length_pos_iff.2 his
      have NE := Lib.hid (show ¬ RightV _ from fun h => by have e := congrArg Vl.items h.1; simp [bareV] at e; exact his e : ¬ RightV ⟨2, ⟨#[]⟩, ps, is, re, im⟩)
      go_enter Tryd.func19, Tryd.ntmps19
      go_wp2
      go_ret
      exact ⟨false, rfl, no_iff NE.out, (by ((repeat (first | exact Below.refl _ _ | (refine Below.drew ?_) | (refine Go.below_drewN ?_ _) | (refine Below.alloc ?_ (by first | (simp; done) | omega | (simp; omega)) _) | (refine Below.setCell ?_ (by first | (simp; done) | omega | (simp; omega)) _) | (refine Below.trans ?_ (Below.mono (by assumption) (by first | (simp; done) | omega | (simp; omega)))))); done))⟩
  · have x1 : ¬ t.toList = [] := fun e => ht (by rw [ByteArray.toList_eq] at e; exact ByteArray.ext (Array.ext' e))
    have NE := Lib.hid (show ¬ RightV _ from fun h => by have e := congrArg Vl.text h.1; simp [bareV] at e; exact ht e : ¬ RightV ⟨2, t, ps, is, re, im⟩)
    go_enter Tryd.func19, Tryd.ntmps19
    go_wp2
    go_ret
    exact ⟨false, rfl, no_iff NE.out, (by ((repeat (first | exact Below.refl _ _ | (refine Below.drew ?_) | (refine Go.below_drewN ?_ _) | (refine Below.alloc ?_ (by first | (simp; done) | omega | (simp; omega)) _) | (refine Below.setCell ?_ (by first | (simp; done) | omega | (simp; omega)) _) | (refine Below.trans ?_ (Below.mono (by assumption) (by first | (simp; done) | omega | (simp; omega)))))); done))⟩
/-- ref10.Right -/
theorem rright_is (v : Value) (a : Vl) (w : World) (hv : VRd w v a) (np : a.pairs.length ≤ 2 ^ 40) (ni : a.items.length ≤ 2 ^ 40) : Calls Tryd.prog 19 #[v] w (BoolOut (RightV a) w) := by
  obtain ⟨⟨PA, pc, IA, ic, rfl, hp, hi⟩, -⟩ := hv
  obtain ⟨k, t, ps, is, re, im⟩ := a
  by_cases h1 : k = 1
  · exact rright_1 k t ps is re im PA pc IA ic w hp hi np ni h1
  by_cases h2 : k = 2
  · exact rright_2 k t ps is re im PA pc IA ic w hp hi np ni h2
  by_cases h3 : k = 3
  · exact rright_3 k t ps is re im PA pc IA ic w hp hi np ni h3
  by_cases h4 : k = 4
  · exact rright_4 k t ps is re im PA pc IA ic w hp hi np ni h4
  by_cases h5 : k = 5
  · exact rright_5 k t ps is re im PA pc IA ic w hp hi np ni h5
  exact rright_o k t ps is re im PA pc IA ic w hp hi np ni ⟨h1, h2, h3, h4, h5⟩
end Go.Proofs.YtdpgkihecpjijaaDoor.T
