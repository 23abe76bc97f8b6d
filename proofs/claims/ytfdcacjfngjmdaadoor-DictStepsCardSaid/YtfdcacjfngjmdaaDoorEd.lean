import Derived.Deep.DeepCutAuto
import Derived.Laws.OwnMore
import Derived.OwnWalk
import Derived.Lib.AppendStr
import Derived.Lib.SliceRun
import Derived.Lib.SmallJoins
import Derived.IntWalk
import Derived.WalkMore
import Derived.Lib.OthersKept
import Derived.Deep.LoopGhost
import Derived.Deep.RegionLaw
import Derived.Deep.AppendLies
import Derived.Test.YtfdcacjfngjmdaaDoorProg
import Derived.Test.YtfdcacjfngjmdaaDoorMem
import Derived.Test.YtfdcacjfngjmdaaDoorBlk
import Derived.Test.YtfdcacjfngjmdaaDoorAp
import Derived.Test.YtfdcacjfngjmdaaDoorEc
import Derived.WalkKit
import Derived.Outline
import Derived.WalkLawsBesides
import Derived.Deep.QuietTactic
import Derived.BigQuiet
import Derived.Lib.Hide
import Derived.Handy
import Derived.Deep.RegionHeld3
import Derived.Deep.DrawnRows
import Derived.KernelRfl
import Derived.Great.Walk
import Derived.Test.YtfdcacjfngjmdaaDoorOwn
namespace Go.Proofs.YtfdcacjfngjmdaaDoor.T
open Go Go.RowKit Go.Sort Mem Own
set_option maxRecDepth 100000
set_option maxHeartbeats 1000000
set_option linter.unusedVariables false
set_option linter.unusedSimpArgs false

/-- From address A on lie the calls l. -/
def RdO (w : World) (A : Option Addr) (l : List Cl) : Prop := l = [] ∨ ∃ b off, A = some ⟨b, off, none⟩ ∧ ∀ i x, l[i]? = some x → w.cell? ⟨b, off + i * 3, none⟩ = some (.int .i64 x.k) ∧ w.cell? ⟨b, off + i * 3 + 1, none⟩ = some (.int .i64 x.v) ∧ w.cell? ⟨b, off + i * 3 + 2, none⟩ = some (.string x.n)
theorem RdO.below {w w' : World} {A : Option Addr} {l : List Cl} (h : RdO w A l) (hb : Below w.heap.size w w') : RdO w' A l := by
  rcases h with h | ⟨b, off, rfl, h⟩
  · exact .inl h
  · exact .inr ⟨b, off, rfl, fun i x hx => ⟨cell_below hb (h i x hx).1, cell_below hb (h i x hx).2.1, cell_below hb (h i x hx).2.2⟩⟩
theorem RdO.cell {w : World} {b off : Nat} {l : List Cl} {k : Nat} (h : RdO w (some ⟨b, off, none⟩) l) (hk : k < l.length) : w.cell? ⟨b, off + k * 3, none⟩ = some (.int .i64 l[k].k) ∧ w.cell? ⟨b, off + k * 3 + 1, none⟩ = some (.int .i64 l[k].v) ∧ w.cell? ⟨b, off + k * 3 + 2, none⟩ = some (.string l[k].n) := by
  rcases h with rfl | ⟨b', off', e, h⟩
  · simp at hk
  · injection e with e; injection e with e1 e2; subst e1; subst e2
    exact h k _ (List.getElem?_eq_getElem hk)
theorem RdO.addr {w : World} {A : Option Addr} {l : List Cl} (h : RdO w A l) (hl : 0 < l.length) : ∃ b off, A = some ⟨b, off, none⟩ := by
  rcases h with rfl | ⟨b, off, e, h⟩
  · simp at hl
  · exact ⟨b, off, e⟩
/-- DictSteps. -/
theorem steps_is (A C : Option Addr) (l : List Cl) (os : List Int) (c c2 : Nat) (w : World) (ha : RdO w A l) (hb : RdZ w C os) (hs : ∀ x ∈ l, x.n.size ≤ 1000000000000000) (hn : l.length ≤ maxLen) (hn2 : os.length ≤ maxLen) (hh : Hv w) :
    Calls Tryd.prog 7 #[.slice A l.length c, .slice C os.length c2] w fun e w' => e = .returned (.bool true) ∧ Below w.heap.size w w' := by
  have h0 : 0 < w.heap.size := lt_of_cell (hh 0 (by decide))
  have HNW := Lib.hid (newI_is w.heap.size (fun _ => (0, 0, 0)) w (Nat.le_refl _))
  have HNW2 := Lib.hid (fun (ow : Ow) (wx : World) (h : w.heap.size ≤ wx.heap.size) => newI_is w.heap.size ow wx h)
  have HH := Lib.hid hh
  have HA := Lib.hid ha
  have HC := Lib.hid hb
  have HS := Lib.hid hs
  obtain ⟨L, hL⟩ : ∃ L, L = l.length := ⟨_, rfl⟩
  obtain ⟨O, hO⟩ : ∃ O, O = os.length := ⟨_, rfl⟩
  have hL1 : L ≤ 9223372036854775807 := by rw [hL]; exact hn
  have hO1 : O ≤ 9223372036854775807 := by rw [hO]; exact hn2
  have HLL := Lib.hid hL
  have HOL := Lib.hid hO
  have HAL := Lib.hid (fun (wx : World) (hb : Below w.heap.size w wx) => alive_is wx (HH.out.keep hb h0))
  rw [← hL, ← hO]
  clear hh ha hb hs hL hO hn hn2
  go_enter Tryd.func7, Tryd.ntmps7
  go_upto_region 3 with (first
    | ((fail_if_success (have := HD1)); go_at_call 13; refine Calls.mono HNW.out ?_; rintro e w1 ⟨g, b1, ow1, rfl, hg, hd1, hc1⟩; have HD1 := Lib.hid hd1; have HC1 := Lib.hid hc1; have hz1 := hc1.below.size; clear hd1 hc1)
    | (go_at_call 13; refine Calls.mono (HNW2.out ow1 _ hz1) ?_; rintro e w2 ⟨g2, b2, ow2, rfl, hg2, hd2, hc2⟩; have HE2 := Lib.hid hd2; have HD2 := Lib.hid (HD1.out.other hc2 (by have := lt_of_blk HD1.out.blk; omega)); have HC2 := Lib.hid (HC1.out.below.trans hc2.below); have hgg : g ≠ g2 := (by have := lt_of_blk HD1.out.blk; omega); clear hd2 hc2))
  clear HNW HNW2 HD1 HC1
  have hz2 := HC2.out.size
  by_cases hbig : L > 600
  · have hd2 : (600 : Int) < (L : Int) := by omega
    go_wp2_with (go_at_call 10; refine Calls.mono (HAL.out _ HC2.out) ?_; rintro e w3 ⟨rfl, hb2⟩; have HB2 := Lib.hid (HC2.out.trans (hb2.mono hz2)); clear hb2)
    go_ret
    exact ⟨rfl, HB2.out⟩
  have hd2 : ¬ (600 : Int) < (L : Int) := by omega
  have hL3 : L ≤ 600 := by omega
  by_cases hbig2 : O > 600
  · have hd3 : (600 : Int) < (O : Int) := by omega
    go_wp2_with (go_at_call 10; refine Calls.mono (HAL.out _ HC2.out) ?_; rintro e w3 ⟨rfl, hb2⟩; have HB2 := Lib.hid (HC2.out.trans (hb2.mono hz2)); clear hb2)
    go_ret
    exact ⟨rfl, HB2.out⟩
  have hd3 : ¬ (600 : Int) < (O : Int) := by omega
  have hO3 : O ≤ 600 := by omega
  clear hbig hbig2
  go_wp2_with fail
  go_loopw [44] (fun s44 wr => ∃ (i : Nat) (m1 m2 : Dm) (ow5 : Ow) (gn1 go1 gn2 go2 : Nat) (nv1 ov1 nv2 ov2 : List Value), i ≤ L ∧ s44 = .int .i64 i ∧ RowKit.Hid (Gd i m1) ∧ RowKit.Hid (Gd i m2) ∧ RowKit.Hid (∀ t, m1.get t = m2.get t) ∧ RowKit.Hid (DR wr w.heap.size 75 81 80 g ow5 m1 gn1 go1 nv1 ov1) ∧ RowKit.Hid (DR wr w.heap.size 75 81 80 g2 ow5 m2 gn2 go2 nv2 ov2) ∧ RowKit.Hid (Below w.heap.size w wr)) (fun s44 _ => L - (intOf s44).toNat)
  case atStart => exact ⟨0, Dm.new, Dm.new, ow2, b1, 0, b2, 0, _, _, _, _, Nat.zero_le _, rfl, Lib.hid Gd.new, Lib.hid Gd.new, Lib.hid (fun _ => rfl), HD2, HE2, HC2⟩
  case round =>
    obtain ⟨i, m1, m2, ow5, gn1, go1, gn2, go2, nv1, ov1, nv2, ov2, hiL, rfl, HG1, HG2, HSM, HDR, HER, HW⟩ := hrel
    have hzr := HW.out.size
    clear HD2 HE2
    by_cases hlt : i < L
    · have hiI : (i : Int) < (L : Int) := by omega
      have hlt1 := Lib.hid (show i < l.length by rw [← HLL.out]; exact hlt)
      obtain ⟨b0, o0, rfl⟩ := HA.out.addr (by have := hlt1.out; omega)
      obtain ⟨q0, q1, q2⟩ := (HA.out.below HW.out).cell hlt1.out
      have hsz := HS.out _ (List.getElem_mem hlt1.out)
      generalize l[i]'hlt1.out = o at q0 q1 q2 hsz
      have HDC := Lib.hid HDR.out.owc
      have HEC := Lib.hid HER.out.owc
      obtain ⟨ow6, how⟩ : ∃ o, o = owc ow5 wr.heap.size := ⟨_, rfl⟩
      have HFR := Lib.hid (show (ow6 wr.heap.size).1 = 0 by rw [how]; unfold owc; rw [if_neg (by omega)])
      rw [← how] at HDC HEC
      clear how HDR HER
      obtain ⟨k, v, n⟩ := o
      dsimp only at q0 q1 q2 hsz
      go_upto_region 8 with fail
      have HN := Lib.hid (new1 wr #[.int .i64 k, .int .i64 v, .string n] 56)
      obtain ⟨wa, hwa⟩ : ∃ x, x = wr.alloc (.cells #[.int .i64 k, .int .i64 v, .string n] 56) := ⟨_, rfl⟩
      rw [← hwa] at HN ⊢
      clear hwa q0 q1 q2
      obtain ⟨z0, z1, z2⟩ := cells3 HN.out.1
      have hnm : n.size ≤ maxLen := by unfold maxLen; omega
      have HD7 := Lib.hid (HDC.out.below HN.out.2)
      have HE7 := Lib.hid (HEC.out.below HN.out.2)
      have HWA := Lib.hid (HW.out.trans (HN.out.2.mono hzr))
      have hza := HWA.out.size
      have hsm := does_same HG1.out HG2.out ⟨k, v, n⟩ hnm HSM.out
      have HSM2 := Lib.hid hsm
      have HGA := Lib.hid (does_gd HG1.out ⟨k, v, n⟩ hnm)
      have HGB := Lib.hid (does_gd HG2.out ⟨k, v, n⟩ hnm)
      have HP1 := Lib.hid (fun (wx : World) (hd : DR wx w.heap.size 75 81 80 g ow6 m1 gn1 go1 nv1 ov1) (hv : Hv wx) => does_is w.heap.size g gn1 go1 i ow6 m1 nv1 ov1 ⟨k, v, n⟩ wx hd HG1.out (by omega) (by dsimp only; omega) hv h0)
      have HP2 := Lib.hid (fun (ow7 : Ow) (wx : World) (hd : DR wx w.heap.size 75 81 80 g2 ow7 m2 gn2 go2 nv2 ov2) (hv : Hv wx) => does_is w.heap.size g2 gn2 go2 i ow7 m2 nv2 ov2 ⟨k, v, n⟩ wx hd HG2.out (by omega) (by dsimp only; omega) hv h0)
      dsimp only at HP1 HP2
      clear hsm hnm
      generalize m1.does ⟨k, v, n⟩ = p1 at HP1 HGA HSM2
      generalize m2.does ⟨k, v, n⟩ = p2 at HP2 HGB HSM2
      have hbl : wr.heap.size < wa.heap.size := lt_of_blk HN.out.1
      go_region_held3 (fun w' => w'.cell? ⟨wr.heap.size, 0, none⟩ = some (.int .i64 k) ∧ w'.cell? ⟨wr.heap.size, 1, none⟩ = some (.int .i64 v) ∧ w'.cell? ⟨wr.heap.size, 2, none⟩ = some (.string n))
        (first | exact ⟨z0, z1, z2⟩ | exact ⟨u0, u1, u2⟩ | exact ⟨t0, t1, t2⟩)
        (first
          | (go_at_call 27; refine Calls.mono (rnew_is _) ?_; rintro e w3 ⟨rfl, hb3⟩; have hb3' := (Below.refl wa.heap.size wa).drew.trans hb3; have HB3 := Lib.hid (keep_blk hb3' HN.out.1); have HD3 := Lib.hid (HD7.out.below hb3'); have HE3 := Lib.hid (HE7.out.below hb3'); have HW3 := Lib.hid (HWA.out.trans (hb3'.mono hza)); clear hb3 hb3'; obtain ⟨u0, u1, u2⟩ := cells3 HB3.out)
          | (go_at_call 26; refine Calls.mono (HP1.out _ HD3.out (HH.out.keep HW3.out h0)) ?_; rintro e w4 ⟨⟨rv, rfl⟩, ow8, gn8, go8, nv8, ov8, hd8, hc8⟩; have HD8 := Lib.hid hd8; have HE8 := Lib.hid (HE3.out.other hc8 (fun e => hgg e.symm)); have HW8 := Lib.hid (HW3.out.trans hc8.below); have HB8 := Lib.hid ((hc8.rest _ (lt_of_blk HB3.out) (by rw [HFR.out]; omega)).trans HB3.out); have HF8 := Lib.hid (show (ow8 wr.heap.size).1 = 0 by rw [hc8.tags _ (lt_of_blk HB3.out)]; exact HFR.out); clear hd8 hc8; obtain ⟨t0, t1, t2⟩ := cells3 HB8.out))
      clear u0 u1 u2 z0 z1 z2 HD7 HE7 HD3 HE3 HB3 HP1 HN HWA HW3
      go_upto_region 9 with fail
      have hz8 := HW8.out.size
      go_region_held3 (fun w' => w'.cell? ⟨wr.heap.size, 0, none⟩ = some (.int .i64 k) ∧ w'.cell? ⟨wr.heap.size, 1, none⟩ = some (.int .i64 v) ∧ w'.cell? ⟨wr.heap.size, 2, none⟩ = some (.string n))
        (first | exact ⟨t0, t1, t2⟩ | exact ⟨u0, u1, u2⟩ | exact ⟨s0, s1, s2⟩)
        (first
          | (go_at_call 27; refine Calls.mono (rnew_is _) ?_; rintro e w5 ⟨rfl, hb3⟩; have hb3' := (Below.refl w4.heap.size w4).drew.trans hb3; have HB5 := Lib.hid (keep_blk hb3' HB8.out); have HD5 := Lib.hid (HD8.out.below hb3'); have HE5 := Lib.hid (HE8.out.below hb3'); have HW5 := Lib.hid (HW8.out.trans (hb3'.mono hz8)); clear hb3 hb3'; obtain ⟨u0, u1, u2⟩ := cells3 HB5.out)
          | (go_at_call 26; refine Calls.mono (HP2.out _ _ HE5.out (HH.out.keep HW5.out h0)) ?_; rintro e w6 ⟨⟨rv2, rfl⟩, ow9, gn9, go9, nv9, ov9, hd9, hc9⟩; have HE9 := Lib.hid hd9; have HD9 := Lib.hid (HD5.out.other hc9 hgg); have HW9 := Lib.hid (HW5.out.trans hc9.below); have HB9 := Lib.hid ((hc9.rest _ (lt_of_blk HB5.out) (by rw [HF8.out]; omega)).trans HB5.out); clear hd9 hc9; obtain ⟨s0, s1, s2⟩ := cells3 HB9.out))
      clear u0 u1 u2 t0 t1 t2 HD8 HE8 HD5 HE5 HB5 HP2 HB8 HW8 HW5 s0 s1 s2
      have hz9 := HW9.out.size
      by_cases hi2 : i < O
      · have hi2I : (i : Int) < (O : Int) := by omega
        have hlt2 := Lib.hid (show i < os.length by rw [← HOL.out]; exact hi2)
        obtain ⟨b7, o7, rfl⟩ := HC.out.addr (by have := hlt2.out; omega)
        have q3 := (HC.out.below HW9.out).cell hlt2.out
        generalize os[i]'hlt2.out = z at q3
        have HGE := Lib.hid (fun (q : Dm) (h : Gd (i + 1) q) => h.step)
        have HST := Lib.hid (fun (q : Dm) (h : Gd (i + 1) q) (ow8 : Ow) (nv8 ov8 : List Value) (wx : World) (hd : DR wx w.heap.size 75 81 80 g2 ow8 q gn9 go9 nv8 ov8) (hv : Hv wx) => stepI_is w.heap.size g2 gn9 go9 (i + 1) ow8 q nv8 ov8 wx hd h.inv (by omega) hv h0)
        go_wp2_with fail
        go_loopw [67] (fun s67 wr2 => ∃ (j : Nat) (q : Dm) (ow10 : Ow) (nv10 ov10 : List Value), j ≤ 20 ∧ s67 = .int .i64 j ∧ RowKit.Hid (Gd (i + 1) q) ∧ RowKit.Hid (∀ t, p1.get t = q.get t) ∧ RowKit.Hid (DR wr2 w.heap.size 75 81 80 g ow10 p1 gn8 go8 nv8 ov8) ∧ RowKit.Hid (DR wr2 w.heap.size 75 81 80 g2 ow10 q gn9 go9 nv10 ov10) ∧ RowKit.Hid (Below w.heap.size w wr2)) (fun s67 _ => 20 - (intOf s67).toNat)
        case atStart => exact ⟨0, p2, ow9, nv9, ov9, Nat.zero_le _, rfl, HGB, HSM2, HD9, HE9, HW9⟩
        case round =>
          obtain ⟨j, q, ow10, nv10, ov10, hj20, rfl, HGQ, HSQ, HDQ, HEQ, HWQ⟩ := hrel
          go_wp2_with (go_at_call 18; refine Calls.mono (HST.out _ HGQ.out _ _ _ _ HEQ.out (HH.out.keep HWQ.out h0)) ?_; rintro e w7 ⟨rfl, ow11, nv11, ov11, hd11, hc11⟩; have HE11 := Lib.hid hd11; have HD11 := Lib.hid (HDQ.out.other hc11 hgg); have HW11 := Lib.hid (HWQ.out.trans hc11.below); clear hd11 hc11)
          · rename_i hjz
            have hj20' : j < 20 := by omega
            exact ⟨⟨j + 1, q.step, ow11, nv11, ov11, by omega, by go_num, Lib.hid HGQ.out.step, Lib.hid (fun t => by rw [step_get HGQ.out.inv]; exact HSQ.out t), HD11, HE11, HW11⟩, by simp [intOf]; omega⟩
          · exact ⟨⟨i + 1, p1, q, ow10, gn8, go8, gn9, go9, nv8, ov8, nv10, ov10, by omega, by go_num, HGA, HGQ, HSQ, HDQ, HEQ, HWQ⟩, by simp [intOf]; omega⟩
      · have hi2I : ¬ (i : Int) < (O : Int) := by omega
        go_wp2_with fail
        exact ⟨⟨i + 1, p1, p2, ow9, gn8, go8, gn9, go9, nv8, ov8, nv9, ov9, by omega, by go_num, HGA, HGB, HSM2, HD9, HE9, HW9⟩, by simp [intOf]; omega⟩
    · obtain rfl : i = L := by omega
      have hperm := names_perm HG1.out.inv HG2.out.inv fun t => by rw [HSM.out t]
      have hnames := srt_eq hperm
      have hmany : m1.many = m2.many := by rw [← names_len HG1.out.inv, ← names_len HG2.out.inv, hperm.length_eq]
      have hnl : (srt m1.names).length ≤ 600 := by rw [srt_len, names_len HG1.out.inv]; have := HG1.out.inv.mK; omega
      have HGT := Lib.hid (show ∀ t ∈ srt m1.names, ∃ z, m1.gets t (.int .i64 0) = (.int .i64 z, true) ∧ m2.gets t (.int .i64 0) = (.int .i64 z, true) from fun t ht => by
        have h1 := (mem_names HG1.out.inv t).1 ((srt_perm m1.names).mem_iff.1 ht)
        unfold Dm.gets
        rw [← HSM.out t]
        cases e : m1.get t with
        | none => exact absurd e h1
        | some v =>
          obtain ⟨z, rfl⟩ := HG1.out.ints t v e
          exact ⟨z, rfl, rfl⟩)
      have HTS := Lib.hid (show ∀ t ∈ srt m1.names, t.size ≤ 9223372036854775807 from fun t ht => by
        obtain ⟨x, hx, rfl⟩ := List.mem_map.1 ((srt_perm m1.names).mem_iff.1 ht)
        exact (HG1.out.inv.one x hx).2)
      have HN1 := Lib.hid (fun (wx : World) (hd : DR wx w.heap.size 75 81 80 g ow5 m1 gn1 go1 nv1 ov1) => namesI_is w.heap.size g gn1 go1 _ ow5 _ nv1 ov1 wx hd HG1.out.inv (by omega))
      have HN2 := Lib.hid (fun (wx : World) (hd : DR wx w.heap.size 75 81 80 g2 ow5 m2 gn2 go2 nv2 ov2) => namesI_is w.heap.size g2 gn2 go2 _ ow5 _ nv2 ov2 wx hd HG2.out.inv (by omega))
      have HL1 := Lib.hid (fun (wx : World) (hd : DR wx w.heap.size 75 81 80 g ow5 m1 gn1 go1 nv1 ov1) => lenI_is w.heap.size g gn1 go1 ow5 _ nv1 ov1 wx hd)
      have HL2 := Lib.hid (fun (wx : World) (hd : DR wx w.heap.size 75 81 80 g2 ow5 m2 gn2 go2 nv2 ov2) => lenI_is w.heap.size g2 gn2 go2 ow5 _ nv2 ov2 wx hd)
      have HG1' := Lib.hid (fun (t : ByteArray) (ht : t.size ≤ 9223372036854775807) (wx : World) (hd : DR wx w.heap.size 75 81 80 g ow5 m1 gn1 go1 nv1 ov1) (hv : Hv wx) => getI_is w.heap.size g gn1 go1 _ ow5 _ nv1 ov1 t wx hd HG1.out.inv (by omega) ht hv)
      have HG2' := Lib.hid (fun (t : ByteArray) (ht : t.size ≤ 9223372036854775807) (wx : World) (hd : DR wx w.heap.size 75 81 80 g2 ow5 m2 gn2 go2 nv2 ov2) (hv : Hv wx) => getI_is w.heap.size g2 gn2 go2 _ ow5 _ nv2 ov2 t wx hd HG2.out.inv (by omega) ht hv)
      rw [← hnames] at HN2
      rw [← hmany] at HL2
      clear hperm hnames hmany HSM HG1 HG2
      generalize m1.many = M at HL1 HL2
      generalize srt m1.names = N at HN1 HN2 hnl HGT HTS
      have HSM := Lib.hid (fun (A B : Option Addr) (ca cb : Nat) (wx : World) (ha : Rd wx A N) (hb : Rd wx B N) => (by
        have := same_is A B N N ca cb wx ha hb (by omega) (by omega)
        rw [decide_eq_true (rfl : N = N)] at this; exact this : Calls Tryd.prog 21 #[.slice A N.length ca, .slice B N.length cb] wx fun e w' => e = .returned (.bool true) ∧ Below wx.heap.size wx w'))
      obtain ⟨NL, hNL⟩ : ∃ NL, NL = N.length := ⟨_, rfl⟩
      rw [← hNL] at HN1 HN2 HSM hnl
      have HNL := Lib.hid hNL
      clear hNL hlt hiL
      go_upto_region 18 with (first
        | ((fail_if_success (have := HD5)); go_at_call 28; refine Calls.mono (HN1.out _ HDR.out) ?_; rintro e w5 ⟨A5, c5, rfl, hr5, hb5⟩; have HR5 := Lib.hid hr5; have HD5 := Lib.hid (HDR.out.below hb5); have HE5 := Lib.hid (HER.out.below hb5); have HW5 := Lib.hid (HW.out.trans (hb5.mono hzr)); have hz5 := HW5.out.size; clear hb5 hr5)
        | (go_at_call 28; refine Calls.mono (HN2.out _ HE5.out) ?_; rintro e w6 ⟨A6, c6, rfl, hr6, hb6⟩; have HR6 := Lib.hid hr6; have HR5' := Lib.hid (HR5.out.below hb6); have HD6 := Lib.hid (HD5.out.below hb6); have HE6 := Lib.hid (HE5.out.below hb6); have HW6 := Lib.hid (HW5.out.trans (hb6.mono hz5)); have hz6 := HW6.out.size; clear hb6 hr6)
        | (go_at_call 21; refine Calls.mono (HSM.out _ _ _ _ _ HR5'.out HR6.out) ?_; rintro e w7 ⟨rfl, hb7⟩; have HD7 := Lib.hid (HD6.out.below hb7); have HE7 := Lib.hid (HE6.out.below hb7); have HW7 := Lib.hid (HW6.out.trans (hb7.mono hz6)); clear hb7)
        | ((fail_if_success (have := HX8)); go_at_call 20; refine Calls.mono (HL1.out _ HD7.out) ?_; rintro e w8 ⟨rfl, rfl⟩; have HX8 := Lib.hid trivial)
        | (go_at_call 20; refine Calls.mono (HL2.out _ HE7.out) ?_; rintro e w9 ⟨rfl, rfl⟩))
      clear HD5 HE5 HR5 HR5' HR6 HD6 HE6 HW5 HW6 HN2 HL1 HL2 HSM HDR HER HX8
      have hz7 := HW7.out.size
      go_wp2_with (go_at_call 28; refine Calls.mono (HN1.out _ HD7.out) ?_; rintro e w10 ⟨A9, c9, rfl, hr9, hb9⟩; have HR9 := Lib.hid hr9; have HD9 := Lib.hid (HD7.out.below hb9); have HE9 := Lib.hid (HE7.out.below hb9); have HW9 := Lib.hid (HW7.out.trans (hb9.mono hz7)); clear hb9 hr9)
      have hz10 := HW9.out.size
      go_loopw [89] (fun s89 wr2 => ∃ j : Nat, j ≤ NL ∧ s89 = .int .i64 j ∧ RowKit.Hid (DR wr2 w.heap.size 75 81 80 g ow5 m1 gn1 go1 nv1 ov1) ∧ RowKit.Hid (DR wr2 w.heap.size 75 81 80 g2 ow5 m2 gn2 go2 nv2 ov2) ∧ RowKit.Hid (Below w10.heap.size w10 wr2)) (fun s89 _ => NL - (intOf s89).toNat)
      case atStart => exact ⟨0, Nat.zero_le _, rfl, HD9, HE9, Lib.hid (Below.refl _ _)⟩
      case round =>
        obtain ⟨j, hjN, rfl, HDX, HEX, HWX⟩ := hrel
        have hzx := HWX.out.size
        have HWT := Lib.hid (HW9.out.trans (HWX.out.mono hz10))
        have hzt := HWT.out.size
        by_cases hlt : j < NL
        · have hjI : (j : Int) < (NL : Int) := by omega
          have hlt1 := Lib.hid (show j < N.length by rw [← HNL.out]; exact hlt)
          obtain ⟨b0, o0, rfl⟩ := HR9.out.addr (by have := hlt1.out; omega)
          have q0 := (HR9.out.below HWX.out).cell hlt1.out
          obtain ⟨z, e1, e2⟩ := HGT.out _ (List.getElem_mem hlt1.out)
          have hts := HTS.out _ (List.getElem_mem hlt1.out)
          have HP1 := Lib.hid (HG1'.out _ hts)
          have HP2 := Lib.hid (HG2'.out _ hts)
          rw [e1] at HP1
          rw [e2] at HP2
          dsimp only at HP1 HP2
          clear e1 e2 hts
          generalize N[j]'hlt1.out = t at q0 HP1 HP2
          go_wp2_with (first
            | ((fail_if_success (have := HD11)); go_at_call 16; refine Calls.mono (HP1.out _ HDX.out (HH.out.keep HWT.out h0)) ?_; rintro e w11 ⟨rfl, hb11⟩; have HD11 := Lib.hid (HDX.out.below hb11); have HE11 := Lib.hid (HEX.out.below hb11); have HW11 := Lib.hid (HWX.out.trans (hb11.mono hzx)); clear hb11)
            | (go_at_call 16; refine Calls.mono (HP2.out _ HE11.out (HH.out.keep (HW9.out.trans (HW11.out.mono hz10)) h0)) ?_; rintro e w12 ⟨rfl, hb12⟩; have HD12 := Lib.hid (HD11.out.below hb12); have HE12 := Lib.hid (HE11.out.below hb12); have HW12 := Lib.hid (HW11.out.trans (hb12.mono HW11.out.size)); clear hb12))
          exact ⟨⟨j + 1, by omega, by go_num, HD12, HE12, HW12⟩, by simp [intOf]; omega⟩
        · have hjI : ¬ (j : Int) < (NL : Int) := by omega
          go_wp2_with (go_at_call 10; refine Calls.mono (HAL.out _ HWT.out) ?_; rintro e w13 ⟨rfl, hb13⟩; have HW13 := Lib.hid (HWT.out.trans (hb13.mono hzt)); clear hb13)
          go_ret
          exact ⟨rfl, HW13.out⟩
end Go.Proofs.YtfdcacjfngjmdaaDoor.T
