import Derived.Deep.DeepCutAuto
import Derived.Laws.OwnMore
import Derived.OwnWalk
import Derived.Lib.AppendStr
import Derived.Lib.SliceRun
import Derived.Lib.SmallJoins
import Derived.IntWalk
import Derived.Lib.ItoaLen
import Derived.WalkMore
import Derived.Lib.AtoiAllCases
import Derived.Lib.OthersKept
import Derived.Laws.Runes
import Derived.Deep.LoopGhost
import Derived.Deep.RegionLaw
import Derived.Deep.AppendLies
import Derived.Test.YthncmfchphigdaaDoorProg
import Derived.Test.YthncmfchphigdaaDoorMem
import Derived.Test.YthncmfchphigdaaDoorBlk
import Derived.Test.YthncmfchphigdaaDoorLf
import Derived.Laws.DeepStrings4
import Derived.WalkKit
import Derived.Outline
import Derived.WalkLawsBesides
import Derived.Deep.QuietTactic
import Derived.BigQuiet
import Derived.Lib.Hide
import Derived.Handy
import Derived.Deep.RegionHeld3
import Derived.Deep.DrawnRows
import Derived.KernelRfl
import Derived.Great.Walk
import Derived.Test.YthncmfchphigdaaDoorOwn
namespace Go.Proofs.YthncmfchphigdaaDoor.T
open Go Go.RowKit Go.Sort Mem Own
set_option maxRecDepth 100000
set_option maxHeartbeats 1000000
set_option linter.unusedVariables false
set_option linter.unusedSimpArgs false

theorem print_len {s : ByteArray} {x y : Int} (h : rightB x y = true) (hs : s.toList = printL x y) : (Lib.itoa x).length + 3 ≤ s.size ∧ s.size ≤ 30 := by
  obtain ⟨a1, a2, a3, a4⟩ := rightB_true.1 h
  have l1 := dec_right (x := x) ⟨by omega, by omega⟩
  have l2 := dec_right (x := max y (-y)) ⟨by omega, by omega⟩
  have l3 := itoa_ne (max y (-y))
  have : s.size = (Lib.itoa x).length + 1 + (Lib.itoa (max y (-y))).length + 1 := by
    rw [← toList_len, hs, printL_eq]; simp; omega
  omega
theorem ext_mid (s : ByteArray) (i j : Nat) : (s.extract i j).toList = (s.toList.take j).drop i := by
  rw [ByteArray.toList_eq, ByteArray.toList_eq, ByteArray.data_extract, Array.toList_extract, List.extract_eq_take_drop, List.drop_take]
/-- The place where the parts of a print meet. -/
theorem print_mid {s : ByteArray} {x y : Int} (h : rightB x y = true) (hs : s.toList = printL x y) :
    s.toList.take (Lib.itoa x).length = Lib.itoa x ∧ s.toList[(Lib.itoa x).length]? = some (sgn y) ∧ (sgn y = 43 → (s.toList.take (s.size - 1)).drop ((Lib.itoa x).length + 1) = Lib.itoa y) ∧ (¬ sgn y = 43 → (s.toList.take (s.size - 1)).drop (Lib.itoa x).length = Lib.itoa y) := by
  obtain ⟨a1, a2, a3, a4⟩ := rightB_true.1 h
  rw [printL_eq] at hs
  have hz : s.size - 1 = (Lib.itoa x ++ sgn y :: Lib.itoa (max y (-y))).length := by rw [← toList_len, hs]; simp; try omega
  have ht : s.toList.take (s.size - 1) = Lib.itoa x ++ sgn y :: Lib.itoa (max y (-y)) := by
    rw [hz, hs]; exact List.take_left' rfl
  refine ⟨?_, by rw [hs]; simp, fun h43 => ?_, fun h45 => ?_⟩
  · rw [hs, List.append_assoc]; exact List.take_left' rfl
  · rw [ht, show Lib.itoa x ++ sgn y :: Lib.itoa (max y (-y)) = (Lib.itoa x ++ [sgn y]) ++ Lib.itoa (max y (-y)) by simp, List.drop_left' (by simp)]
    unfold sgn at h43
    split at h43
    · cases h43
    · rw [show max y (-y) = y by omega]
  · rw [ht, List.drop_left' rfl]
    unfold sgn at h45 ⊢
    split
    · rename_i hy; exact (itoa_minus y hy).symm
    · rename_i hy; rw [if_neg hy] at h45; exact absurd rfl h45
theorem after_sign {s : ByteArray} {x y : Int} (hs : s.toList = printL x y) : ∀ (j : Nat) (b : UInt8), (Lib.itoa x).length < j → s.toList[j]? = some b → SG.contains b = false := by
  intro j b hj hb
  rw [printL_eq] at hs
  rw [hs] at hb
  have hM := itoa_dig (max y (-y)) (by omega)
  obtain ⟨d, rfl⟩ : ∃ d, j = (Lib.itoa x).length + (d + 1) := ⟨j - (Lib.itoa x).length - 1, by omega⟩
  have e : (Lib.itoa x ++ sgn y :: Lib.itoa (max y (-y)) ++ [105])[(Lib.itoa x).length + (d + 1)]? = (Lib.itoa (max y (-y)) ++ [105])[d]? := by
    rw [show Lib.itoa x ++ sgn y :: Lib.itoa (max y (-y)) ++ [105] = Lib.itoa x ++ (sgn y :: (Lib.itoa (max y (-y)) ++ [105])) by simp, List.getElem?_append_right (by omega)]
    simp
  rw [e] at hb
  rcases List.mem_append.1 (List.mem_of_getElem? hb) with hm | hm
  · exact sg_dig (hM b hm)
  · rw [List.mem_singleton.1 hm]; decide
theorem print_inj {s : ByteArray} {x y x' y' : Int} (h : rightB x y = true) (hs : s.toList = printL x y) (h' : rightB x' y' = true) (hs' : s.toList = printL x' y') : x' = x ∧ y' = y := by
  obtain ⟨m1, m2, -, -⟩ := print_mid h hs
  obtain ⟨n1, n2, -, -⟩ := print_mid h' hs'
  have hle : (Lib.itoa x').length = (Lib.itoa x).length := by
    rcases Nat.lt_trichotomy (Lib.itoa x').length (Lib.itoa x).length with g | g | g
    · have := after_sign hs' _ _ g m2
      rw [sgn_in] at this; cases this
    · exact g
    · have := after_sign hs _ _ g n2
      rw [sgn_in] at this; cases this
  obtain ⟨a1, a2, a3, a4⟩ := rightB_true.1 h
  obtain ⟨b1, b2, b3, b4⟩ := rightB_true.1 h'
  have hxx : Lib.itoa x' = Lib.itoa x := by rw [← m1, ← n1, hle]
  have e1 := atoi_itoa x (by omega) (by omega)
  have e2 := atoi_itoa x' (by omega) (by omega)
  rw [hxx, e1] at e2
  injection e2 with e2
  refine ⟨e2.symm, ?_⟩
  rw [printL_eq] at hs hs'
  rw [hs, hxx] at hs'
  have h3 := List.append_cancel_right hs'
  have h4 := List.append_cancel_left h3
  have f1 := atoi_sgn y ⟨by omega, by omega⟩
  have f2 := atoi_sgn y' ⟨by omega, by omega⟩
  rw [← h4, f1] at f2
  injection f2 with f2
  exact f2.symm
/-- What ref09.Parse tells. -/
def RSpec (s : ByteArray) (e : Ending) : Prop := (∃ x y : Int, e = .returned (.tuple #[pt x y, .int .i64 0]) ∧ rightB x y = true ∧ s.toList = printL x y) ∨ (e = .returned (.tuple #[pt 0 0, .int .i64 90]) ∧ ∀ x y : Int, rightB x y = true → ¬ s.toList = printL x y)
theorem prints_iff {s : ByteArray} {n1 n2 : Int} (h0 : 0 < s.size) : ((printS n1 n2).toList == s.toList) = true ↔ rightB n1 n2 = true ∧ s.toList = printL n1 n2 := by
  unfold printS
  constructor
  · intro h
    have h2 := eq_of_beq h
    cases hr : rightB n1 n2 with
    | false =>
      rw [hr, if_neg (by decide)] at h2
      have h3 := toList_len s
      rw [← h2] at h3
      have : (⟨#[]⟩ : ByteArray).toList = [] := by decide +kernel
      rw [this] at h3
      simp at h3
      omega
    | true =>
      rw [hr, if_pos rfl] at h2
      exact ⟨rfl, by rw [← h2, ByteArray.toList_eq]⟩
  · rintro ⟨h1, h2⟩
    rw [h1, if_pos rfl, h2, ByteArray.toList_eq]
    simp
set_option maxHeartbeats 4000000 in
/-- ref09.Parse -/
theorem rparse_is (s : ByteArray) (w : World) (hs : s.size ≤ 1000000000000000000) :
    Calls Tryd.prog 27 #[.string s] w fun e w' => RSpec s e ∧ Below w.heap.size w w' := by
  have HN := Lib.hid (new1 w #[.int .i64 0, .int .i64 0] 23)
  have HPL := Lib.hid (fun (x y : Int) (h1 : rightB x y = true) (h2 : s.toList = printL x y) => print_len h1 h2)
  have HPM := Lib.hid (fun (x y : Int) (h1 : rightB x y = true) (h2 : s.toList = printL x y) => print_mid h1 h2)
  by_cases hbad : s.size < 4 ∨ 30 < s.size
  · have HNO := Lib.hid (show ∀ x y : Int, rightB x y = true → ¬ s.toList = printL x y from fun x y h1 h2 => by have := HPL.out x y h1 h2; have := itoa_ne x; omega)
    go_enter Tryd.func27, Tryd.ntmps27
    go_upto_region 1 with fail
    obtain ⟨w1, hw1⟩ : ∃ w1, w1 = w.alloc (.cells #[.int .i64 0, .int .i64 0] 23) := ⟨_, rfl⟩
    rw [← hw1] at HN ⊢
    clear hw1
    obtain ⟨x0, x1⟩ := cells2 HN.out.1
    obtain ⟨f0, f1⟩ := frees2 HN.out.1
    by_cases h4 : s.size < 4
    · have h4b : decide ((s.size : Int) < 4) = true := by simp; omega
      go_wp2
      refine ret_pt rfl rfl rfl (sets2 _ _ HN.out.1) ?_
      exact ⟨.inr ⟨rfl, HNO.out⟩, below_sets2 HN.out.2 (Nat.le_refl _)⟩
    · have h4b : decide ((s.size : Int) < 4) = false := by simp; omega
      have h30b : decide ((30 : Int) < (s.size : Int)) = true := by simp; omega
      go_wp2
      refine ret_pt rfl rfl rfl (sets2 _ _ HN.out.1) ?_
      exact ⟨.inr ⟨rfl, HNO.out⟩, below_sets2 HN.out.2 (Nat.le_refl _)⟩
  have h4b : decide ((s.size : Int) < 4) = false := by simp; omega
  have h30b : decide ((30 : Int) < (s.size : Int)) = false := by simp; omega
  have hs4 : 4 ≤ s.size := by omega
  have hs30 : s.size ≤ 30 := by omega
  clear hbad
  go_enter Tryd.func27, Tryd.ntmps27
  go_upto_region 1 with fail
  obtain ⟨w1, hw1⟩ : ∃ w1, w1 = w.alloc (.cells #[.int .i64 0, .int .i64 0] 23) := ⟨_, rfl⟩
  rw [← hw1] at HN ⊢
  clear hw1
  go_wp2_with fail
  go_loopw [4] (fun s4 wr => ∃ k : Nat, s4 = .int .i64 (k : Int) ∧ 1 ≤ k ∧ k + 1 ≤ s.size ∧ RowKit.Hid (∀ x y : Int, rightB x y = true → s.toList = printL x y → k ≤ (Lib.itoa x).length) ∧ RowKit.Hid (wr.heap[w.heap.size]? = some (.cells #[.int .i64 0, .int .i64 0] 23 (0, 0))) ∧ RowKit.Hid (Below w.heap.size w wr)) (fun s4 _ => s.size - (intOf s4).toNat)
  case atStart => exact ⟨1, rfl, by omega, by omega, Lib.hid (fun x y _ _ => itoa_ne x), Lib.hid HN.out.1, Lib.hid HN.out.2⟩
  case round =>
    obtain ⟨k, rfl, hk1, hks, HK, HX, HB⟩ := hrel
    have hzr := HB.out.size
    by_cases hlt : k + 1 < s.size
    · have hltb : decide ((k : Int) < (s.size : Int) - 1) = true := by simp; omega
      have hks2 : k ≤ s.size := by omega
      have hks3 : k < s.size := by omega
      obtain ⟨P1, hP1⟩ : ∃ P1, s.extract 0 k = P1 := ⟨_, rfl⟩
      have HP1 := Lib.hid (show P1.toList = s.toList.take k by rw [← hP1, ext_list])
      have hz1 : P1.size ≤ 1000000000000000000 := by rw [← hP1]; simp; omega
      have HW := Lib.hid (fun (u : ByteArray) (hu : u.size ≤ 1000000000000000000) (wx : World) => (Whole_any u wx hu).mono (R' := fun e w' => ∃ (n : Int) (ok : Bool), e = .returned (.tuple #[.int .i64 n, .bool ok]) ∧ ((-9223372036854775808 ≤ n ∧ n ≤ 9223372036854775807) ∧ ∀ v : Int, -1048576 ≤ v ∧ v ≤ 1048576 → u.toList = Lib.itoa v → n = v ∧ ok = true) ∧ Below wx.heap.size wx w') (fun e w' h => by
        obtain ⟨⟨n, ok, h1, h2⟩, h3⟩ := h
        exact ⟨n, ok, h1, h2, h3⟩))
      have HW1 := Lib.hid (HW.out P1 hz1)
      go_upto_region 6 with fail
      go_cut [0, 2, 4, 5, 6] (fun s0 s2 s4 s5 s6 wx => ∃ (n : Int) (ok : Bool), s0 = .string s ∧ s2 = .pointer (some ⟨w.heap.size, 0, none⟩) ∧ s4 = .int .i64 (k : Int) ∧ s5 = .int .i64 n ∧ s6 = .bool ok ∧ RowKit.Hid ((-9223372036854775808 ≤ n ∧ n ≤ 9223372036854775807) ∧ ∀ v : Int, -1048576 ≤ v ∧ v ≤ 1048576 → P1.toList = Lib.itoa v → n = v ∧ ok = true) ∧ RowKit.Hid (wx.heap[w.heap.size]? = some (.cells #[.int .i64 0, .int .i64 0] 23 (0, 0))) ∧ RowKit.Hid (Below w.heap.size w wx))
      case first =>
        go_wp2_with (go_at_call 38; (try rw [hP1]); refine Calls.mono (HW1.out _) ?_; (rintro e w2 ⟨n, ok, rfl, hn, hb2⟩; have HN2 := Lib.hid hn; have HX2 := Lib.hid (keep_blk hb2 HX.out); have HB2 := Lib.hid (HB.out.trans (hb2.mono hzr)); clear hn hb2))
        go_meet
        exact ⟨n, ok, rfl, rfl, rfl, rfl, rfl, HN2, HX2, HB2⟩
      case rest =>
        clear HX HB HW1 hP1 hz1 hzr
        obtain ⟨n1, ok1, rfl, rfl, rfl, rfl, rfl, HN1, HX, HB⟩ := hcut
        have hzr := HB.out.size
        obtain ⟨b, hgb⟩ : ∃ b, s[k]'hks3 = b := ⟨_, rfl⟩
        have HGB := Lib.hid (show s.toList[k]? = some b by rw [ba_get hks3, hgb])
        obtain ⟨F, hF⟩ : ∃ F : Nat, F = if b = 43 then k + 1 else k := ⟨_, rfl⟩
        have hFz : F ≤ s.size - 1 := by rw [hF]; split <;> omega
        obtain ⟨P2, hP2⟩ : ∃ P2, s.extract F (s.size - 1) = P2 := ⟨_, rfl⟩
        have HP2 := Lib.hid (show P2.toList = (s.toList.take (s.size - 1)).drop F by rw [← hP2, ext_mid])
        have hz2 : P2.size ≤ 1000000000000000000 := by rw [← hP2]; simp; omega
        have HW2 := Lib.hid (HW.out P2 hz2)
        have HSTEP := Lib.hid (show ∀ (n2 : Int) (ok2 : Bool), (∀ v : Int, -1048576 ≤ v ∧ v ≤ 1048576 → P2.toList = Lib.itoa v → n2 = v ∧ ok2 = true) → ¬ (ok1 = true ∧ ok2 = true ∧ rightB n1 n2 = true ∧ s.toList = printL n1 n2) → ∀ x y : Int, rightB x y = true → s.toList = printL x y → k + 1 ≤ (Lib.itoa x).length from fun n2 ok2 h2 hno x y h3 h4 => by
          have hk := HK.out x y h3 h4
          rcases Nat.lt_or_ge k (Lib.itoa x).length with h5 | h5
          · omega
          · exfalso
            have h6 : k = (Lib.itoa x).length := by omega
            obtain ⟨a1, a2, a3, a4⟩ := rightB_true.1 h3
            obtain ⟨m1, m2, m3, m4⟩ := HPM.out x y h3 h4
            rw [← h6] at m1 m2 m3 m4
            have hbs : b = sgn y := by rw [HGB.out] at m2; exact Option.some.inj m2
            obtain ⟨e1, e2⟩ := HN1.out.2 x ⟨by omega, by omega⟩ (by rw [HP1.out, m1])
            have hp : P2.toList = Lib.itoa y := by
              rw [HP2.out, hF]
              by_cases h43 : b = 43
              · rw [if_pos h43]; exact m3 (hbs ▸ h43)
              · rw [if_neg h43]; exact m4 (hbs ▸ h43)
            obtain ⟨e3, e4⟩ := h2 y ⟨by omega, by omega⟩ hp
            rw [e1, e3] at hno
            exact hno ⟨e2, e4, h3, h4⟩)
        clear hz2 HW
        by_cases h43 : b = 43
        · rw [if_pos h43] at hF
          subst hF h43
          have hsl : ∀ wx : World, (Instr.slice 9 (.string s) (some (.int .i64 ((k : Int) + 1))) (some (.int .i64 ((s.size : Int) - 1))) none).run Tryd.prog wx = .ok (.string P2) wx := fun wx => by
            rw [run_slice_string_if (h := Tryd.underlying9), if_pos ⟨by omega, by omega⟩, if_pos ⟨by omega, by omega⟩]
            rw [show ((s.size : Int) - 1).toNat = s.size - 1 by omega, show ((k : Int) + 1 : Int).toNat = k + 1 by omega, hP2]
          have HSTEP2 := Lib.hid HSTEP.out
          clear HSTEP HP2 HP1 HK HPM HPL HGB
          go_upto_region 10 with fail
          go_cut [0, 2, 4, 5, 6, 8, 9] (fun s0 s2 s4 s5 s6 s8 s9 wx => ∃ (n2 : Int) (ok2 : Bool), s0 = .string s ∧ s2 = .pointer (some ⟨w.heap.size, 0, none⟩) ∧ s4 = .int .i64 (k : Int) ∧ s5 = .int .i64 n1 ∧ s6 = .bool ok1 ∧ s8 = .int .i64 n2 ∧ s9 = .bool ok2 ∧ RowKit.Hid ((-9223372036854775808 ≤ n2 ∧ n2 ≤ 9223372036854775807) ∧ ∀ v : Int, -1048576 ≤ v ∧ v ≤ 1048576 → P2.toList = Lib.itoa v → n2 = v ∧ ok2 = true) ∧ RowKit.Hid (wx.heap[w.heap.size]? = some (.cells #[.int .i64 0, .int .i64 0] 23 (0, 0))) ∧ RowKit.Hid (Below w.heap.size w wx))
          case first =>
            go_wp2_with (go_at_call 38; refine Calls.mono (HW2.out _) ?_; (rintro e w3 ⟨n2, ok2, rfl, hn, hb3⟩; have HN3 := Lib.hid hn; have HX3 := Lib.hid (keep_blk hb3 HX.out); have HB3 := Lib.hid (HB.out.trans (hb3.mono hzr)); clear hn hb3))
            go_meet
            exact ⟨n2, ok2, rfl, rfl, rfl, rfl, rfl, rfl, rfl, HN3, HX3, HB3⟩
          case rest =>
            clear HX HB HW2 hzr hsl hP2
            obtain ⟨n2, ok2, rfl, rfl, rfl, rfl, rfl, rfl, rfl, HN2, HX, HB⟩ := hcut
            have hzr := HB.out.size
            obtain ⟨x0, x1⟩ := cells2 HX.out
            obtain ⟨f0, f1⟩ := frees2 HX.out
            have hkw := lt_of_blk HX.out
            have HST := Lib.hid (HSTEP2.out n2 ok2 HN2.out.2)
            have HB1 := Lib.hid (HB.out.alloc hzr (.cells #[.int .i64 n1, .int .i64 n2] 23))
            have HX1 := Lib.hid (blk_new HX.out (.cells #[.int .i64 n1, .int .i64 n2] 23))
            clear HSTEP2
            cases ok1 with
            | false =>
              go_wp2_with fail
              exact ⟨⟨k + 1, by go_num, by omega, by omega, Lib.hid (HST.out (by simp)), HX1, HB1⟩, by simp [intOf]; omega⟩
            | true =>
              cases ok2 with
              | false =>
                go_wp2_with fail
                exact ⟨⟨k + 1, by go_num, by omega, by omega, Lib.hid (HST.out (by simp)), HX1, HB1⟩, by simp [intOf]; omega⟩
              | true =>
                have HRP := Lib.hid (fun (wx : World) => rprint_any n1 n2 wx HN1.out.1 HN2.out.1)
                have HIF := Lib.hid (prints_iff (s := s) (n1 := n1) (n2 := n2) (by omega))
                have HG := Lib.hid (heap_alloc_new wc (.cells #[.int .i64 n1, .int .i64 n2] 23))
                generalize printS n1 n2 = PS at HRP HIF
                cases hq : (PS.toList == s.toList) with
                | false =>
                  have HNX := Lib.hid (show ¬ (true = true ∧ true = true ∧ rightB n1 n2 = true ∧ s.toList = printL n1 n2) from fun h => by have := HIF.out.2 h.2.2; rw [hq] at this; cases this)
                  go_wp2_with (go_at_call 26; refine Calls.mono (HRP.out _) ?_; (rintro e w4 ⟨rfl, hb4⟩; have HX4 := Lib.hid (keep_blk hb4 HX1.out); have HB4 := Lib.hid (HB1.out.trans (hb4.mono HB1.out.size)); clear hb4 x0 x1 f0 f1))
                  exact ⟨⟨k + 1, by go_num, by omega, by omega, Lib.hid (HST.out HNX.out), HX4, HB4⟩, by simp [intOf]; omega⟩
                | true =>
                  have HYES := Lib.hid (HIF.out.1 hq)
                  go_wp2_with (go_at_call 26; refine Calls.mono (HRP.out _) ?_; (rintro e w4 ⟨rfl, hb4⟩; have HX4 := Lib.hid (keep_blk hb4 HX1.out); have HG4 := Lib.hid (keep_blk hb4 HG.out); have HB4 := Lib.hid (HB1.out.trans (hb4.mono HB1.out.size)); clear hb4 x0 x1 f0 f1; obtain ⟨x0, x1⟩ := cells2 HX4.out; obtain ⟨f0, f1⟩ := frees2 HX4.out; obtain ⟨y0, y1⟩ := cells2 HG4.out))
                  refine ret_pt rfl rfl rfl (sets2 _ _ HX4.out) ?_
                  exact ⟨.inl ⟨n1, n2, rfl, HYES.out.1, HYES.out.2⟩, below_sets2 HB4.out (Nat.le_refl _)⟩
        · rw [if_neg h43] at hF
          have hF' := hF.symm
          subst hF'
          have hb43 : ((b.toNat : Int) == 43) = false := by
            simp only [beq_eq_false_iff_ne, ne_eq]; intro h; exact h43 (UInt8.toNat_inj.1 (by show b.toNat = 43; omega))
          have hsl : ∀ wx : World, (Instr.slice 9 (.string s) (some (.int .i64 ((k : Int)))) (some (.int .i64 ((s.size : Int) - 1))) none).run Tryd.prog wx = .ok (.string P2) wx := fun wx => by
            rw [run_slice_string_if (h := Tryd.underlying9), if_pos ⟨by omega, by omega⟩, if_pos ⟨by omega, by omega⟩]
            rw [show ((s.size : Int) - 1).toNat = s.size - 1 by omega, show ((k : Int) : Int).toNat = k by omega, hP2]
          have HSTEP2 := Lib.hid HSTEP.out
          clear HSTEP HP2 HP1 HK HPM HPL HGB
          go_upto_region 10 with fail
          go_cut [0, 2, 4, 5, 6, 8, 9] (fun s0 s2 s4 s5 s6 s8 s9 wx => ∃ (n2 : Int) (ok2 : Bool), s0 = .string s ∧ s2 = .pointer (some ⟨w.heap.size, 0, none⟩) ∧ s4 = .int .i64 (k : Int) ∧ s5 = .int .i64 n1 ∧ s6 = .bool ok1 ∧ s8 = .int .i64 n2 ∧ s9 = .bool ok2 ∧ RowKit.Hid ((-9223372036854775808 ≤ n2 ∧ n2 ≤ 9223372036854775807) ∧ ∀ v : Int, -1048576 ≤ v ∧ v ≤ 1048576 → P2.toList = Lib.itoa v → n2 = v ∧ ok2 = true) ∧ RowKit.Hid (wx.heap[w.heap.size]? = some (.cells #[.int .i64 0, .int .i64 0] 23 (0, 0))) ∧ RowKit.Hid (Below w.heap.size w wx))
          case first =>
            go_wp2_with (go_at_call 38; refine Calls.mono (HW2.out _) ?_; (rintro e w3 ⟨n2, ok2, rfl, hn, hb3⟩; have HN3 := Lib.hid hn; have HX3 := Lib.hid (keep_blk hb3 HX.out); have HB3 := Lib.hid (HB.out.trans (hb3.mono hzr)); clear hn hb3))
            go_meet
            exact ⟨n2, ok2, rfl, rfl, rfl, rfl, rfl, rfl, rfl, HN3, HX3, HB3⟩
          case rest =>
            clear HX HB HW2 hzr hsl hP2
            obtain ⟨n2, ok2, rfl, rfl, rfl, rfl, rfl, rfl, rfl, HN2, HX, HB⟩ := hcut
            have hzr := HB.out.size
            obtain ⟨x0, x1⟩ := cells2 HX.out
            obtain ⟨f0, f1⟩ := frees2 HX.out
            have hkw := lt_of_blk HX.out
            have HST := Lib.hid (HSTEP2.out n2 ok2 HN2.out.2)
            have HB1 := Lib.hid (HB.out.alloc hzr (.cells #[.int .i64 n1, .int .i64 n2] 23))
            have HX1 := Lib.hid (blk_new HX.out (.cells #[.int .i64 n1, .int .i64 n2] 23))
            clear HSTEP2
            cases ok1 with
            | false =>
              go_wp2_with fail
              exact ⟨⟨k + 1, by go_num, by omega, by omega, Lib.hid (HST.out (by simp)), HX1, HB1⟩, by simp [intOf]; omega⟩
            | true =>
              cases ok2 with
              | false =>
                go_wp2_with fail
                exact ⟨⟨k + 1, by go_num, by omega, by omega, Lib.hid (HST.out (by simp)), HX1, HB1⟩, by simp [intOf]; omega⟩
              | true =>
                have HRP := Lib.hid (fun (wx : World) => rprint_any n1 n2 wx HN1.out.1 HN2.out.1)
                have HIF := Lib.hid (prints_iff (s := s) (n1 := n1) (n2 := n2) (by omega))
                have HG := Lib.hid (heap_alloc_new wc (.cells #[.int .i64 n1, .int .i64 n2] 23))
                generalize printS n1 n2 = PS at HRP HIF
                cases hq : (PS.toList == s.toList) with
                | false =>
                  have HNX := Lib.hid (show ¬ (true = true ∧ true = true ∧ rightB n1 n2 = true ∧ s.toList = printL n1 n2) from fun h => by have := HIF.out.2 h.2.2; rw [hq] at this; cases this)
                  go_wp2_with (go_at_call 26; refine Calls.mono (HRP.out _) ?_; (rintro e w4 ⟨rfl, hb4⟩; have HX4 := Lib.hid (keep_blk hb4 HX1.out); have HB4 := Lib.hid (HB1.out.trans (hb4.mono HB1.out.size)); clear hb4 x0 x1 f0 f1))
                  exact ⟨⟨k + 1, by go_num, by omega, by omega, Lib.hid (HST.out HNX.out), HX4, HB4⟩, by simp [intOf]; omega⟩
                | true =>
                  have HYES := Lib.hid (HIF.out.1 hq)
                  go_wp2_with (go_at_call 26; refine Calls.mono (HRP.out _) ?_; (rintro e w4 ⟨rfl, hb4⟩; have HX4 := Lib.hid (keep_blk hb4 HX1.out); have HG4 := Lib.hid (keep_blk hb4 HG.out); have HB4 := Lib.hid (HB1.out.trans (hb4.mono HB1.out.size)); clear hb4 x0 x1 f0 f1; obtain ⟨x0, x1⟩ := cells2 HX4.out; obtain ⟨f0, f1⟩ := frees2 HX4.out; obtain ⟨y0, y1⟩ := cells2 HG4.out))
                  refine ret_pt rfl rfl rfl (sets2 _ _ HX4.out) ?_
                  exact ⟨.inl ⟨n1, n2, rfl, HYES.out.1, HYES.out.2⟩, below_sets2 HB4.out (Nat.le_refl _)⟩
    · have HNO := Lib.hid (show ∀ x y : Int, rightB x y = true → ¬ s.toList = printL x y from fun x y h1 h2 => by have := HPL.out x y h1 h2; have := HK.out x y h1 h2; omega)
      have hltb : decide ((k : Int) < (s.size : Int) - 1) = false := by simp; omega
      obtain ⟨x0, x1⟩ := cells2 HX.out
      obtain ⟨f0, f1⟩ := frees2 HX.out
      go_wp2
      refine ret_pt rfl rfl rfl (sets2 _ _ HX.out) ?_
      exact ⟨.inr ⟨rfl, HNO.out⟩, below_sets2 HB.out (Nat.le_refl _)⟩
set_option maxHeartbeats 4000000 in
/-- PointPrints -/
theorem prints_law (x y : Int) (w : World) (hx : -9223372036854775808 ≤ x ∧ x ≤ 9223372036854775807) (hy : -9223372036854775808 ≤ y ∧ y ≤ 9223372036854775807) (hT : Tab w) (hE : ErrV w) (hU : Lib.Utf8Tabs 4 5 w) :
    Calls Tryd.prog 11 #[pt x y] w fun e w' => e = .returned (.bool true) ∧ Below w.heap.size w w' := by
  have HN := Lib.hid (new1 w #[.int .i64 x, .int .i64 y] 23)
  have HA := Lib.hid (fun (wx : World) (hb : Below w.heap.size w wx) => alive_any wx (hT.keep hb))
  have HP := Lib.hid (fun (wx : World) (hb : Below w.heap.size w wx) => Print_any x y wx (hT.keep hb))
  have HRP := Lib.hid (fun (wx : World) => rprint_any x y wx hx hy)
  have HRR := Lib.hid (fun (wx : World) => (refRight_any x y wx).mono (R' := fun e w' => e = .returned (.bool (rightB x y)) ∧ Below wx.heap.size wx w') (fun e w' h => ⟨h.1, by rw [← h.2]; exact (Below.refl _ _).alloc (Nat.le_refl _) _⟩))
  have hps : (printS x y).size ≤ 1000000000000000000 := by
    unfold printS
    split
    · rename_i h
      have := (print_len (s := ⟨(printL x y).toArray⟩) h (by rw [ByteArray.toList_eq])).2
      omega
    · show (#[] : Array UInt8).size ≤ _; simp
  have HPA := Lib.hid (fun (wx : World) (hb : Below w.heap.size w wx) => (parse_is (printS x y) wx hps (hT.keep hb) (hE.keep hb) (Utf8Tabs_below hU hb)).mono (R' := fun e w' => e = .returned (.tuple #[if rightB x y = true then pt x y else pt 0 0, .int .i64 (if rightB x y = true then 0 else 90)]) ∧ Below wx.heap.size wx w') (fun e w' h => by
    refine ⟨?_, h.2⟩
    cases hr : rightB x y with
    | true =>
      have hl : (printS x y).toList = printL x y := by unfold printS; rw [if_pos hr, ByteArray.toList_eq]
      rw [if_pos rfl, if_pos rfl]
      rcases h.1 with ⟨x', y', e1, e2, e3, e4⟩ | ⟨-, e2⟩
      · obtain ⟨rfl, rfl⟩ := e4 x y hr hl
        exact e1
      · exact absurd hl (e2 x y hr)
    | false =>
      rw [if_neg (by decide), if_neg (by decide)]
      rcases h.1 with ⟨x', y', -, e2, e3, -⟩ | ⟨e1, -⟩
      · exfalso
        have h3 := (print_len e2 e3).1
        have h4 : (printS x y).size = 0 := by unfold printS; rw [hr, if_neg (by decide)]; rfl
        omega
      · exact e1))
  have HPS := Lib.hid (show rightB x y = false → printS x y = ⟨#[]⟩ from fun h => by unfold printS; rw [h, if_neg (by decide)])
  clear hT hE hU hps hx hy
  generalize rightB x y = r at HRR HPA HPS
  cases r with
  | false =>
    rw [HPS.out rfl] at HP HPA HRP
    rw [if_neg (by decide), if_neg (by decide)] at HPA
    obtain ⟨x0, x1⟩ := cells2 HN.out.1
    go_enter Tryd.func11, Tryd.ntmps11
    go_wp2_with (first
      | (go_at_call 24; refine Calls.mono (HP.out _ HN.out.2) ?_; (rintro e w1 ⟨rfl, hb1⟩; have HB1 := Lib.hid (HN.out.2.trans (hb1.mono HN.out.2.size)); have HX1 := Lib.hid (keep_blk hb1 HN.out.1); clear hb1 x0 x1))
      | (go_at_call 25; refine Calls.mono (HPA.out _ HB1.out) ?_; (rintro e w2 ⟨rfl, hb2⟩; have HB2 := Lib.hid ((HB1.out.trans (hb2.mono HB1.out.size)).alloc (HB1.out.trans (hb2.mono HB1.out.size)).size (.cells #[.int .i64 0, .int .i64 0] 23)); have HX2 := Lib.hid (blk_new (keep_blk hb2 HX1.out) (.cells #[.int .i64 0, .int .i64 0] 23)); clear hb2; obtain ⟨x0, x1⟩ := cells2 HX2.out))
      | (go_at_call 17; refine Calls.mono (HRR.out _) ?_; (rintro e w3 ⟨rfl, hb3⟩; have HB3 := Lib.hid (HB2.out.trans (hb3.mono HB2.out.size)); clear hb3 x0 x1))
      | (go_at_call 15; refine Calls.mono (HA.out _ HB3.out) ?_; (rintro e w4 ⟨rfl, hb4⟩; have HB4 := Lib.hid (HB3.out.trans (hb4.mono HB3.out.size)); clear hb4)))
    go_ret
    exact ⟨rfl, HB4.out⟩
  | true =>
    rw [if_pos rfl, if_pos rfl] at HPA
    clear HPS
    generalize printS x y = PS at HP HPA HRP
    obtain ⟨x0, x1⟩ := cells2 HN.out.1
    go_enter Tryd.func11, Tryd.ntmps11
    go_wp2_with (first
      | (go_at_call 24; refine Calls.mono (HP.out _ HN.out.2) ?_; (rintro e w1 ⟨rfl, hb1⟩; have HB1 := Lib.hid (HN.out.2.trans (hb1.mono HN.out.2.size)); have HX1 := Lib.hid (keep_blk hb1 HN.out.1); clear hb1 x0 x1))
      | (go_at_call 25; refine Calls.mono (HPA.out _ HB1.out) ?_; (rintro e w2 ⟨rfl, hb2⟩; have HG2 := Lib.hid (heap_alloc_new w2 (.cells #[.int .i64 x, .int .i64 y] 23)); have HB2 := Lib.hid ((HB1.out.trans (hb2.mono HB1.out.size)).alloc (HB1.out.trans (hb2.mono HB1.out.size)).size (.cells #[.int .i64 x, .int .i64 y] 23)); have HX2 := Lib.hid (blk_new (keep_blk hb2 HX1.out) (.cells #[.int .i64 x, .int .i64 y] 23)); clear hb2; obtain ⟨x0, x1⟩ := cells2 HX2.out))
      | (go_at_call 17; refine Calls.mono (HRR.out _) ?_; (rintro e w3 ⟨rfl, hb3⟩; have HB3 := Lib.hid (HB2.out.trans (hb3.mono HB2.out.size)); have HX3 := Lib.hid (keep_blk hb3 HX2.out); have HG3 := Lib.hid (keep_blk hb3 HG2.out); clear hb3 x0 x1))
      | (go_at_call 15; refine Calls.mono (HA.out _ HB3.out) ?_; (rintro e w4 ⟨rfl, hb4⟩; have HB4 := Lib.hid (HB3.out.trans (hb4.mono HB3.out.size)); have HX4 := Lib.hid (keep_blk hb4 HX3.out); have HG4 := Lib.hid (keep_blk hb4 HG3.out); clear hb4; obtain ⟨x0, x1⟩ := cells2 HX4.out))
      | (go_at_call 26; refine Calls.mono (HRP.out _) ?_; (rintro e w5 ⟨rfl, hb5⟩; have HB5 := Lib.hid (HB4.out.trans (hb5.mono HB4.out.size)); have HX5 := Lib.hid (keep_blk hb5 HX4.out); have HG5 := Lib.hid (keep_blk hb5 HG4.out); clear hb5 x0 x1; obtain ⟨x0, x1⟩ := cells2 HX5.out; obtain ⟨y0, y1⟩ := cells2 HG5.out)))
    go_ret
    exact ⟨rfl, HB5.out⟩
set_option maxHeartbeats 4000000 in
/-- PointParses -/
theorem parses_law (s : ByteArray) (w : World) (hs : s.size ≤ 1000000000000000000) (hT : Tab w) (hE : ErrV w) (hU : Lib.Utf8Tabs 4 5 w) :
    Calls Tryd.prog 12 #[.string s] w fun e w' => e = .returned (.bool true) ∧ Below w.heap.size w w' := by
  have HA := Lib.hid (fun (wx : World) (hb : Below w.heap.size w wx) => alive_any wx (hT.keep hb))
  obtain ⟨x, y, z, HP, HQ⟩ : ∃ x y z : Int, (∀ (wx : World) (hb : Below w.heap.size w wx), Calls Tryd.prog 25 #[.string s] wx (fun e w' => e = .returned (.tuple #[pt x y, .int .i64 z]) ∧ Below wx.heap.size wx w')) ∧ (∀ (wx : World), Calls Tryd.prog 27 #[.string s] wx (fun e w' => e = .returned (.tuple #[pt x y, .int .i64 z]) ∧ Below wx.heap.size wx w')) := by
    by_cases h : ∃ x y : Int, rightB x y = true ∧ s.toList = printL x y
    · obtain ⟨x, y, h1, h2⟩ := h
      have inj : ∀ x' y' : Int, rightB x' y' = true → s.toList = printL x' y' → x' = x ∧ y' = y := fun x' y' g1 g2 => print_inj h1 h2 g1 g2
      refine ⟨x, y, 0, fun wx hb => (parse_is s wx hs (hT.keep hb) (hE.keep hb) (Utf8Tabs_below hU hb)).mono fun e w' hh => ⟨?_, hh.2⟩, fun wx => (rparse_is s wx hs).mono fun e w' hh => ⟨?_, hh.2⟩⟩
      · rcases hh.1 with ⟨x', y', e1, e2, e3, -⟩ | ⟨-, e2⟩
        · obtain ⟨rfl, rfl⟩ := inj x' y' e2 e3
          exact e1
        · exact absurd h2 (e2 x y h1)
      · rcases hh.1 with ⟨x', y', e1, e2, e3⟩ | ⟨-, e2⟩
        · obtain ⟨rfl, rfl⟩ := inj x' y' e2 e3
          exact e1
        · exact absurd h2 (e2 x y h1)
    · refine ⟨0, 0, 90, fun wx hb => (parse_is s wx hs (hT.keep hb) (hE.keep hb) (Utf8Tabs_below hU hb)).mono fun e w' hh => ⟨?_, hh.2⟩, fun wx => (rparse_is s wx hs).mono fun e w' hh => ⟨?_, hh.2⟩⟩
      · rcases hh.1 with ⟨x', y', -, e2, e3, -⟩ | ⟨e1, -⟩
        · exact absurd ⟨x', y', e2, e3⟩ h
        · exact e1
      · rcases hh.1 with ⟨x', y', -, e2, e3⟩ | ⟨e1, -⟩
        · exact absurd ⟨x', y', e2, e3⟩ h
        · exact e1
  have HP' := Lib.hid HP
  have HQ' := Lib.hid HQ
  clear HP HQ hT hE hU
  go_enter Tryd.func12, Tryd.ntmps12
  go_wp2_with (first
    | (go_at_call 25; refine Calls.mono (HP'.out _ (Below.refl _ _)) ?_; (rintro e w1 ⟨rfl, hb1⟩; have HB1 := Lib.hid (hb1.alloc hb1.size (.cells #[.int .i64 x, .int .i64 y] 23)); have HX1 := Lib.hid (heap_alloc_new w1 (.cells #[.int .i64 x, .int .i64 y] 23)); clear hb1))
    | (go_at_call 27; refine Calls.mono (HQ'.out _) ?_; (rintro e w2 ⟨rfl, hb2⟩; have HX2 := Lib.hid (blk_new (keep_blk hb2 HX1.out) (.cells #[.int .i64 x, .int .i64 y] 23)); have HY2 := Lib.hid (heap_alloc_new w2 (.cells #[.int .i64 x, .int .i64 y] 23)); have HB2 := Lib.hid ((HB1.out.trans (hb2.mono HB1.out.size)).alloc (HB1.out.trans (hb2.mono HB1.out.size)).size (.cells #[.int .i64 x, .int .i64 y] 23)); clear hb2))
    | (go_at_call 15; refine Calls.mono (HA.out _ HB2.out) ?_; (rintro e w3 ⟨rfl, hb3⟩; have HX3 := Lib.hid (keep_blk hb3 HX2.out); have HY3 := Lib.hid (keep_blk hb3 HY2.out); have HB3 := Lib.hid (HB2.out.trans (hb3.mono HB2.out.size)); clear hb3; obtain ⟨x0, x1⟩ := cells2 HX3.out; obtain ⟨y0, y1⟩ := cells2 HY3.out)))
  go_ret
  exact ⟨rfl, HB3.out⟩
end Go.Proofs.YthncmfchphigdaaDoor.T
