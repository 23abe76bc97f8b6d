import Derived.Deep.DeepCutAuto
import Derived.Laws.OwnMore
import Derived.OwnWalk
import Derived.Lib.AppendStr
import Derived.Lib.SliceRun
import Derived.Lib.SmallJoins
import Derived.IntWalk
import Derived.WalkMore
import Derived.Lib.OthersKept
import Derived.Deep.LoopGhost
import Derived.Deep.RegionLaw
import Derived.Deep.AppendLies
import Derived.Test.YtmflalnajinejaaProg
import Derived.Test.YtmflalnajinejaaMem
import Derived.Test.YtmflalnajinejaaBlk
import Derived.Test.YtmflalnajinejaaAp
import Derived.Test.YtmflalnajinejaaKc
import Derived.Test.YtmflalnajinejaaKd
import Derived.Test.YtmflalnajinejaaKa
import Derived.Test.YtmflalnajinejaaKl
import Derived.Test.YtmflalnajinejaaKx
import Derived.Test.YtmflalnajinejaaKy
import Derived.Test.YtmflalnajinejaaLa
import Derived.Test.YtmflalnajinejaaKu
import Derived.Test.YtmflalnajinejaaKv
import Derived.Test.YtmflalnajinejaaZr
import Derived.WalkKit
import Derived.Outline
import Derived.WalkLawsBesides
import Derived.Deep.QuietTactic
import Derived.BigQuiet
import Derived.Lib.Hide
import Derived.Handy
import Derived.Deep.RegionHeld3
import Derived.Deep.DrawnRows
import Derived.KernelRfl
import Derived.Great.Walk
import Derived.Test.YtmflalnajinejaaOwn
namespace Go.Proofs.Ytmflalnajinejaa.T
open Go Go.RowKit Go.Sort Mem Own
set_option maxRecDepth 100000
set_option maxHeartbeats 1000000
set_option linter.unusedVariables false
set_option linter.unusedSimpArgs false

open Go.WideMaps Go.Maps
theorem own_rde {w : World} {B n : Nat} {A : Option Addr} {c : Nat} {l : List En} (h : w.ownsRow B 40 2 (.slice A n c) l.length (l.flatMap enC)) : RdE w A l ∧ ∀ g off, A = some ⟨g, off, none⟩ → B ≤ g := by
  have h' := h
  rcases h.2 with ⟨e, h0⟩ | ⟨g, cap, cur, e, hB, hg, hnc, hcm, _⟩
  · injection e with e1 e2 e3
    exact ⟨.inl (List.eq_nil_of_length_eq_zero h0), fun g off h => by rw [e1] at h; cases h⟩
  · injection e with e1 e2 e3
    subst e1; subst e2; subst e3
    refine ⟨.inr ⟨g, 0, rfl, fun i hi => ?_⟩, fun g' off h => by injection h with h; injection h with h1 h2; omega⟩
    have := enC_at l i hi
    rw [Nat.zero_add, h'.cellAt (i * 2) (by omega), h'.cellAt (i * 2 + 1) (by omega)]
    exact this
theorem ins_t (key o : En) (r : List En) (d : Bool) (h : (d || decide (o = key)) = true) : insG key (o :: r) d = o :: insG key r true := by simp only [insG]; rw [h]; simp
theorem ins_b (key o : En) (r : List En) (d : Bool) (h : d = false ∧ decide (o = key) = false ∧ bef key o = true) : insG key (o :: r) d = key :: o :: insG key r true := by simp only [insG]; rw [h.1, h.2.1, h.2.2]; simp
theorem ins_c (key o : En) (r : List En) (d : Bool) (h : d = false ∧ decide (o = key) = false ∧ bef key o = false) : insG key (o :: r) d = o :: insG key r false := by simp only [insG]; rw [h.1, h.2.1, h.2.2]; simp
set_option maxHeartbeats 4000000 in
/-- ref18.Pairs, its inner loop behind a key. -/
theorem rpairs_is (l : List Wy) (A : Option Addr) (n c : Nat) (w : World) (hl : l.length = n) (hn : n ≤ 100000) (hr : RdW w A l) :
    Calls Try.prog 21 #[.slice A n c] w fun e w' => ∃ v, e = .returned v ∧ w'.ownsRow w.heap.size 40 2 v (prs l []).length ((prs l []).flatMap enC) ∧ Below w.heap.size w w' := by
  have HR := Lib.hid hr
  have HL := Lib.hid hl
  have HT := Lib.hid (fun i (hi : i < l.length) => prs_take hi)
  have HPL := Lib.hid (fun i => prs_len (l.take i) [])
  have HE := Lib.hid (show prs (l.take n) [] = prs l [] by rw [← hl, List.take_length])
  clear hr hl
  generalize prs l [] = R at HE ⊢
  go_enter Try.func21, Try.ntmps21
  go_wp2_with fail
  go_loopw [3, 4] (fun s3 s4 wr => ∃ i : Nat, i ≤ n ∧ s4 = .int .i64 i ∧ ∃ (v : Value) (out : List En), s3 = v ∧ RowKit.Hid (out = prs (l.take i) []) ∧ RowKit.Hid (wr.ownsRow w.heap.size 40 2 v out.length (out.flatMap enC)) ∧ RowKit.Hid (Below w.heap.size w wr)) (fun _ s4 _ => n - (intOf s4).toNat)
  case atStart => exact ⟨0, Nat.zero_le _, rfl, _, [], rfl, Lib.hid rfl, Lib.hid (World.ownsRow_nil _ _ _ _), Lib.hid (Below.refl _ _)⟩
  case round =>
    obtain ⟨i, hi, rfl, vo, out, hvo, HO, HOW, HB⟩ := hrel
    obtain ⟨m, hm⟩ : ∃ m, m = out.length := ⟨_, rfl⟩
    have HM := Lib.hid hm
    obtain ⟨Ao, co, hv⟩ : ∃ A c, vo = .slice A m c := by
      rcases HOW.out.2 with ⟨hv, h0⟩ | ⟨g, cap, cur, hv, _⟩
      · exact ⟨none, 0, by rw [hv, hm, h0]⟩
      · exact ⟨_, _, by rw [hv, hm]⟩
    subst hv
    subst hvo
    clear hm
    by_cases hlt : i < n
    · have hlt2 := Lib.hid (show i < l.length by rw [HL.out]; exact hlt)
      obtain ⟨b, off, rfl, hrow⟩ := HR.out.row (Nat.zero_lt_of_lt hlt2.out)
      obtain ⟨g0, g1, _⟩ := hrow i hlt2.out
      have g0 := cell_below HB.out g0
      have g1 := cell_below HB.out g1
      have HT1 := Lib.hid (HT.out i hlt2.out)
      have HOL := Lib.hid (show out.length ≤ i by have := HPL.out i; rw [← HO.out, List.length_take] at this; simp at this; omega)
      rw [← HO.out] at HT1
      clear hrow
      generalize l[i]'hlt2.out = p at g0 g1 HT1
      obtain ⟨⟨px, py⟩, pl⟩ := p
      dsimp only at g0 g1 HT1
      obtain ⟨RR, hRR⟩ : ∃ RR, RR = insG (px, py) out false := ⟨_, rfl⟩
      have HRR := Lib.hid hRR
      rw [← hRR] at HT1
      have HRL := Lib.hid (show RR.length ≤ out.length + 1 by rw [hRR]; exact insG_len _ _ _)
      clear hRR
      have HOR := Lib.hid (own_rde HOW.out)
      go_upto_region 5 with fail
      go_cut [5] (fun s5 wx => ∃ kb : Nat, s5 = .pointer (some ⟨kb, 0, none⟩) ∧ wr.heap.size ≤ kb ∧ RowKit.Hid (wx.heap[kb]? = some (.cells #[.int .i64 px, .int .i64 py] 40 (0, 0))) ∧ RowKit.Hid (Below wr.heap.size wr wx))
      case first =>
        have hlb := lt_of_cell g0
        have a0 := Lib.cell?_alloc_some (.cells #[.int .i64 0, .int .i64 0] 40) g0
        have a1 := Lib.cell?_alloc_some (.cells #[.int .i64 0, .int .i64 0] 40) g1
        obtain ⟨n0, n1⟩ := cells2 (heap_alloc_new wr (.cells #[.int .i64 0, .int .i64 0] 40))
        obtain ⟨m0, m1⟩ := frees2 (heap_alloc_new wr (.cells #[.int .i64 0, .int .i64 0] 40))
        go_region_held3 (fun w' => w'.cell? ⟨b, off + i * 15, none⟩ = some (.int .i64 px) ∧ w'.cell? ⟨b, off + i * 15 + 1, none⟩ = some (.int .i64 py))
          (first | exact ⟨g0, g1⟩ | exact ⟨a0, a1⟩ | (refine ⟨?_, ?_⟩ <;> go_keep))
          (fail)
        all_goals
          go_wp2
          go_meet
          exact ⟨_, rfl, Nat.le_refl _, Lib.hid (heap_alloc_new wr _), Lib.hid (((Below.refl _ _).alloc (Nat.le_refl _) _).drew)⟩
      case rest =>
        obtain ⟨kb, rfl, hkb, HK, HBW⟩ := hcut
        obtain ⟨W, hW⟩ : ∃ W, W = wc := ⟨_, rfl⟩
        rw [← hW] at HK HBW ⊢
        clear hW g0 g1
        have HRE := Lib.hid (HOR.out.1.keeps (keeps_below HBW.out))
        go_wp2_with fail
        go_loopw [6, 7, 8] (fun s6 s7 s8 wx => ∃ j : Nat, j ≤ m ∧ s8 = .int .i64 j ∧ ∃ (v : Value) (acc : List En) (d : Bool), s6 = v ∧ s7 = .bool d ∧ RowKit.Hid (wx.ownsRow W.heap.size 40 2 v acc.length (acc.flatMap enC)) ∧ RowKit.Hid (acc ++ insG (px, py) (out.drop j) d = RR) ∧ RowKit.Hid (acc.length ≤ 2 * j) ∧ RowKit.Hid (Below W.heap.size W wx)) (fun _ _ s8 _ => m - (intOf s8).toNat)
        case atStart => exact ⟨0, Nat.zero_le _, rfl, _, [], _, rfl, rfl, Lib.hid (World.ownsRow_nil _ _ _ _), Lib.hid (by rw [HRR.out]; rfl), Lib.hid (Nat.le_refl _), Lib.hid (Below.refl _ _)⟩
        case round =>
          obtain ⟨j, hj, rfl, v, acc, d, hv, rfl, HAC, HIN, HAL, HBX⟩ := hrel
          have hv' := hv.symm
          subst hv'
          have hz5x := HBX.out.size
          have hal := HAL.out
          have hol := HOL.out
          have hmm : m ≤ i := by rw [HM.out]; exact HOL.out
          by_cases hjm : j < m
          · have hjo := Lib.hid (show j < out.length by rw [← HM.out]; exact hjm)
            obtain ⟨go, oo, rfl, hoe⟩ := HRE.out.row (Nat.zero_lt_of_lt hjo.out)
            obtain ⟨oW0, oW1⟩ := hoe j hjo.out
            have o0 := cell_below HBX.out oW0
            have o1 := cell_below HBX.out oW1
            have hdr : out.drop j = out[j]'hjo.out :: out.drop (j + 1) := List.drop_eq_getElem_cons hjo.out
            have HDR := Lib.hid hdr
            clear hoe hdr
            rw [HDR.out] at HIN
            generalize out[j]'hjo.out = oe at o0 o1 oW0 oW1 HIN
            clear HDR
            obtain ⟨ox, oy⟩ := oe
            dsimp only at o0 o1 oW0 oW1
            have OW := Lib.hid (And.intro oW0 oW1)
            clear oW0 oW1
            obtain ⟨k0, k1⟩ := cells2 (keep_blk HBX.out HK.out)
            have heq : ∀ w : World, (binOp .eql 40 (.agg #[.int .i64 ox, .int .i64 oy]) (.agg #[.int .i64 px, .int .i64 py])).run Try.prog w = .ok (.bool (decide ((ox, oy) = (px, py)))) w := eqE ox oy px py
            have HI1 := Lib.hid (fun h => ins_t (px, py) (ox, oy) (out.drop (j + 1)) d h)
            have HI2 := Lib.hid (fun h => ins_b (px, py) (ox, oy) (out.drop (j + 1)) d h)
            have HI3 := Lib.hid (fun h => ins_c (px, py) (ox, oy) (out.drop (j + 1)) d h)
            have HBF := Lib.hid (before_is (px, py) (ox, oy) wr.drew.drew)
            generalize bef (px, py) (ox, oy) = bq at HI2 HI3 HBF
            generalize decide ((ox, oy) = (px, py)) = e at heq HI1 HI2 HI3
            have hbo : go < wr.heap.size := lt_of_cell o0
            cases d with
            | true =>
              have HINS := Lib.hid (show acc ++ [(ox, oy)] ++ insG (px, py) (out.drop (j + 1)) true = RR by rw [← HIN.out, HI1.out rfl]; simp)
              cases e with
              | true =>
                go_wp2_with fail
                go_region_with fail
                all_goals
                  go_wp2_with fail
                  go_quiet (fail)
                  all_goals
                    obtain ⟨w9, hw9⟩ : ∃ w9, w9 = wr.drew.drewN nq := ⟨_, rfl⟩
                    have hb9 : Below wr.heap.size wr w9 := by rw [hw9]; exact Go.below_drewN (Below.refl _ _).drew _
                    have HB9 := Lib.hid (HBX.out.trans (hb9.mono HBX.out.size))
                    have HO9 := Lib.hid (own_bl HAC.out hb9)
                    have q0 := cell_below hb9 o0
                    have q1 := cell_below hb9 o1
                    rw [← hw9]
                    clear hw9 hb9
                    have hz9 := HB9.out.size
                    go_wp2_with (at_builtin; refine Own.wpList_append_ex rfl (.tmp 52) (.tmp 57) 47 47 rfl v (.slice (some ⟨_, 0, none⟩) 1 1) rfl rfl _ (app_en _ W.heap.size v acc acc.length (by exact HO9.out) (by exact hz9) (by omega) ox oy) ?_; (rintro v7 w7 ⟨ho, hb⟩; have HO7 := Lib.hid ho; have HB7 := Lib.hid (show Below W.heap.size W w7 from Below.trans (by exact HB9.out) hb); have hz8 := (HB7).out.size; clear ho hb))
                    exact ⟨⟨j + 1, by omega, by go_num, _, acc ++ [(ox, oy)], _, rfl, rfl, Lib.hid (by have := HO7.out; simpa using this), Lib.hid HINS.out, Lib.hid (by have := HAL.out; simp; omega), HB7⟩, by simp [intOf]; omega⟩
              | false =>
                go_wp2_with fail
                go_region_with fail
                all_goals
                  go_wp2_with fail
                  go_quiet (fail)
                  all_goals
                    obtain ⟨w9, hw9⟩ : ∃ w9, w9 = wr.drew.drewN nq := ⟨_, rfl⟩
                    have hb9 : Below wr.heap.size wr w9 := by rw [hw9]; exact Go.below_drewN (Below.refl _ _).drew _
                    have HB9 := Lib.hid (HBX.out.trans (hb9.mono HBX.out.size))
                    have HO9 := Lib.hid (own_bl HAC.out hb9)
                    have q0 := cell_below hb9 o0
                    have q1 := cell_below hb9 o1
                    rw [← hw9]
                    clear hw9 hb9
                    have hz9 := HB9.out.size
                    go_wp2_with (at_builtin; refine Own.wpList_append_ex rfl (.tmp 52) (.tmp 57) 47 47 rfl v (.slice (some ⟨_, 0, none⟩) 1 1) rfl rfl _ (app_en _ W.heap.size v acc acc.length (by exact HO9.out) (by exact hz9) (by omega) ox oy) ?_; (rintro v7 w7 ⟨ho, hb⟩; have HO7 := Lib.hid ho; have HB7 := Lib.hid (show Below W.heap.size W w7 from Below.trans (by exact HB9.out) hb); have hz8 := (HB7).out.size; clear ho hb))
                    exact ⟨⟨j + 1, by omega, by go_num, _, acc ++ [(ox, oy)], _, rfl, rfl, Lib.hid (by have := HO7.out; simpa using this), Lib.hid HINS.out, Lib.hid (by have := HAL.out; simp; omega), HB7⟩, by simp [intOf]; omega⟩
            | false =>
              cases e with
              | true =>
                have HINS := Lib.hid (show acc ++ [(ox, oy)] ++ insG (px, py) (out.drop (j + 1)) true = RR by rw [← HIN.out, HI1.out rfl]; simp)
                go_wp2_with fail
                go_region_with fail
                all_goals
                  go_wp2_with fail
                  go_quiet (fail)
                  all_goals
                    obtain ⟨w9, hw9⟩ : ∃ w9, w9 = wr.drew.drewN nq := ⟨_, rfl⟩
                    have hb9 : Below wr.heap.size wr w9 := by rw [hw9]; exact Go.below_drewN (Below.refl _ _).drew _
                    have HB9 := Lib.hid (HBX.out.trans (hb9.mono HBX.out.size))
                    have HO9 := Lib.hid (own_bl HAC.out hb9)
                    have q0 := cell_below hb9 o0
                    have q1 := cell_below hb9 o1
                    rw [← hw9]
                    clear hw9 hb9
                    have hz9 := HB9.out.size
                    go_wp2_with (at_builtin; refine Own.wpList_append_ex rfl (.tmp 52) (.tmp 57) 47 47 rfl v (.slice (some ⟨_, 0, none⟩) 1 1) rfl rfl _ (app_en _ W.heap.size v acc acc.length (by exact HO9.out) (by exact hz9) (by omega) ox oy) ?_; (rintro v7 w7 ⟨ho, hb⟩; have HO7 := Lib.hid ho; have HB7 := Lib.hid (show Below W.heap.size W w7 from Below.trans (by exact HB9.out) hb); have hz8 := (HB7).out.size; clear ho hb))
                    exact ⟨⟨j + 1, by omega, by go_num, _, acc ++ [(ox, oy)], _, rfl, rfl, Lib.hid (by have := HO7.out; simpa using this), Lib.hid HINS.out, Lib.hid (by have := HAL.out; simp; omega), HB7⟩, by simp [intOf]; omega⟩
              | false =>
                cases bq with
                | true =>
                  have HINS := Lib.hid (show acc ++ [(px, py)] ++ [(ox, oy)] ++ insG (px, py) (out.drop (j + 1)) true = RR by rw [← HIN.out, HI2.out ⟨rfl, rfl, rfl⟩]; simp)
                  go_wp2_with fail
                  go_region_with fail
                  all_goals
                    go_wp2_with fail
                    go_region_law (go_simp; go_at_call 33; refine Calls.mono HBF.out ?_; (rintro e w5 ⟨rfl, hb5⟩; have HB5 := Lib.hid (show Below wr.heap.size wr w5 from ⟨hb5.os, hb5.tape, hb5.output, hb5.size, hb5.block⟩); have hz5 := HB5.out.size; clear hb5))
                    all_goals
                      have HBX5 := Lib.hid (show Below W.heap.size W w5 from HBX.out.trans (HB5.out.mono HBX.out.size))
                      have HAC5 := Lib.hid (own_bl HAC.out HB5.out)
                      have hz6 := HBX5.out.size
                      have r0 := cell_below HBX5.out OW.out.1
                      have r1 := cell_below HBX5.out OW.out.2
                      have hkey := cells2 (keep_blk HBX5.out HK.out)
                      go_wp2_with (first
                        | (at_builtin; refine Own.wpList_append_ex rfl (.tmp 48) (.tmp 50) 47 47 rfl v (.slice (some ⟨_, 0, none⟩) 1 1) rfl rfl _ (app_en _ W.heap.size v acc acc.length (by exact HAC5.out) (by exact hz6) (by omega) px py) ?_; (rintro v6 w6 ⟨ho, hb⟩; have HO6 := Lib.hid ho; have HB6 := Lib.hid (show Below W.heap.size W w6 from Below.trans (by exact HBX5.out) hb); have hz7 := (HB6).out.size; have s0 := cell_below HB6.out OW.out.1; have s1 := cell_below HB6.out OW.out.2; clear ho hb))
                        | (at_builtin; refine Own.wpList_append_ex rfl (.tmp 52) (.tmp 57) 47 47 rfl v6 (.slice (some ⟨_, 0, none⟩) 1 1) rfl rfl _ (app_en _ W.heap.size v6 (acc ++ [(px, py)]) (acc.length + 1) (by exact HO6.out) (by exact hz7) (by omega) ox oy) ?_; (rintro v7 w7 ⟨ho, hb⟩; have HO7 := Lib.hid ho; have HB7 := Lib.hid (show Below W.heap.size W w7 from Below.trans (by exact HB6.out) hb); have hz8 := (HB7).out.size; clear ho hb)))
                      exact ⟨⟨j + 1, by omega, by go_num, _, acc ++ [(px, py)] ++ [(ox, oy)], _, rfl, rfl, Lib.hid (by have := HO7.out; simpa using this), Lib.hid HINS.out, Lib.hid (by have := HAL.out; simp; omega), HB7⟩, by simp [intOf]; omega⟩
                | false =>
                  have HINS := Lib.hid (show acc ++ [(ox, oy)] ++ insG (px, py) (out.drop (j + 1)) false = RR by rw [← HIN.out, HI3.out ⟨rfl, rfl, rfl⟩]; simp)
                  go_wp2_with fail
                  go_region_with fail
                  all_goals
                    go_wp2_with fail
                    go_region_law (go_simp; go_at_call 33; refine Calls.mono HBF.out ?_; (rintro e w5 ⟨rfl, hb5⟩; have HB5 := Lib.hid (show Below wr.heap.size wr w5 from ⟨hb5.os, hb5.tape, hb5.output, hb5.size, hb5.block⟩); have hz5 := HB5.out.size; clear hb5))
                    all_goals
                      have HBX5 := Lib.hid (show Below W.heap.size W w5 from HBX.out.trans (HB5.out.mono HBX.out.size))
                      have HAC5 := Lib.hid (own_bl HAC.out HB5.out)
                      have hz6 := HBX5.out.size
                      have r0 := cell_below HBX5.out OW.out.1
                      have r1 := cell_below HBX5.out OW.out.2
                      go_wp2_with (at_builtin; refine Own.wpList_append_ex rfl (.tmp 52) (.tmp 57) 47 47 rfl v (.slice (some ⟨_, 0, none⟩) 1 1) rfl rfl _ (app_en _ W.heap.size v acc acc.length (by exact HAC5.out) (by exact hz6) (by omega) ox oy) ?_; (rintro v7 w7 ⟨ho, hb⟩; have HO7 := Lib.hid ho; have HB7 := Lib.hid (show Below W.heap.size W w7 from Below.trans (by exact HBX5.out) hb); have hz8 := (HB7).out.size; clear ho hb))
                      exact ⟨⟨j + 1, by omega, by go_num, _, acc ++ [(ox, oy)], _, rfl, rfl, Lib.hid (by have := HO7.out; simpa using this), Lib.hid HINS.out, Lib.hid (by have := HAL.out; simp; omega), HB7⟩, by simp [intOf]; omega⟩
          · have hjm2 : j = m := by omega
            subst hjm2
            have HFIN := Lib.hid (show acc ++ insG (px, py) [] d = RR by have := HIN.out; rw [HM.out, List.drop_length] at this; exact this)
            obtain ⟨k0, k1⟩ := cells2 (keep_blk HBX.out HK.out)
            have HBO := Lib.hid (HB.out.trans ((HBW.out.trans (HBX.out.mono HBW.out.size)).mono HB.out.size))
            have hzW : w.heap.size ≤ W.heap.size := Nat.le_trans HB.out.size HBW.out.size
            cases d with
            | true =>
              have HRA := Lib.hid (show acc = RR by have := HFIN.out; simpa [insG] using this)
              go_wp2
              exact ⟨⟨i + 1, by omega, by go_num, _, RR, rfl, Lib.hid HT1.out.symm, Lib.hid (by rw [← HRA.out]; exact own_mn HAC.out hzW), HBO⟩, by simp [intOf]; omega⟩
            | false =>
              have HRA := Lib.hid (show acc ++ [(px, py)] = RR by have := HFIN.out; simpa [insG] using this)
              go_wp2_with (at_builtin; refine Own.wpList_append_ex rfl (.tmp 61) (.tmp 63) 47 47 rfl v (.slice (some ⟨_, 0, none⟩) 1 1) rfl rfl _ (app_en _ W.heap.size v acc acc.length (by exact HAC.out) (by exact hz5x) (by omega) px py) ?_; (rintro v6 w6 ⟨ho, hb⟩; have HO6 := Lib.hid ho; have HB6 := Lib.hid (show Below W.heap.size W w6 from Below.trans (by exact HBX.out) hb); have hz7 := (HB6).out.size; clear ho hb))
              exact ⟨⟨i + 1, by omega, by go_num, _, RR, rfl, Lib.hid HT1.out.symm, Lib.hid (by rw [← HRA.out]; have := own_mn HO6.out hzW; simpa using this), Lib.hid (HB.out.trans ((HBW.out.trans (HB6.out.mono HBW.out.size)).mono HB.out.size))⟩, by simp [intOf]; omega⟩
    · have hin : i = n := by omega
      subst hin
      have hR : out = R := HO.out.trans HE.out
      subst hR
      go_wp2
      go_ret
      exact ⟨_, rfl, HOW.out, HB.out⟩
end Go.Proofs.Ytmflalnajinejaa.T
