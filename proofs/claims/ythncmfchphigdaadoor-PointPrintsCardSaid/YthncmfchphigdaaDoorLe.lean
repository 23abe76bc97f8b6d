import Derived.Deep.DeepCutAuto
import Derived.Laws.OwnMore
import Derived.OwnWalk
import Derived.Lib.AppendStr
import Derived.Lib.SliceRun
import Derived.Lib.SmallJoins
import Derived.IntWalk
import Derived.Lib.ItoaLen
import Derived.WalkMore
import Derived.Lib.AtoiAllCases
import Derived.Lib.OthersKept
import Derived.Laws.Runes
import Derived.Deep.LoopGhost
import Derived.Deep.RegionLaw
import Derived.Deep.AppendLies
import Derived.Test.YthncmfchphigdaaDoorProg
import Derived.Test.YthncmfchphigdaaDoorMem
import Derived.Test.YthncmfchphigdaaDoorBlk
import Derived.Test.YthncmfchphigdaaDoorLd
import Derived.WalkKit
import Derived.Outline
import Derived.WalkLawsBesides
import Derived.Deep.QuietTactic
import Derived.BigQuiet
import Derived.Lib.Hide
import Derived.Handy
import Derived.Deep.RegionHeld3
import Derived.Deep.DrawnRows
import Derived.KernelRfl
import Derived.Great.Walk
import Derived.Test.YthncmfchphigdaaDoorOwn
namespace Go.Proofs.YthncmfchphigdaaDoor.T
open Go Go.RowKit Go.Sort Mem Own
set_option maxRecDepth 100000
set_option maxHeartbeats 1000000
set_option linter.unusedVariables false
set_option linter.unusedSimpArgs false

/-- The sign that a part begins with. -/
def sgn (y : Int) : UInt8 := if y < 0 then 45 else 43
theorem printL_eq (x y : Int) : printL x y = (Lib.itoa x ++ sgn y :: Lib.itoa (max y (-y))) ++ [105] := by
  unfold printL sgn
  split <;> simp
theorem itoa_dig (n : Int) (h : 0 ≤ n) : ∀ b ∈ Lib.itoa n, 48 ≤ b.toNat ∧ b.toNat ≤ 57 := by
  obtain ⟨u, rfl⟩ : ∃ u : Nat, n = (u : Int) := ⟨n.toNat, by omega⟩
  rw [Lib.itoa_nonneg]
  exact decDigits_dig u
theorem itoa_ascii (n : Int) : ∀ b ∈ Lib.itoa n, b.toNat < 128 := by
  intro b hb
  unfold Lib.itoa at hb
  split at hb
  · rcases List.mem_cons.1 hb with rfl | h
    · decide
    · have := decDigits_dig _ b h; omega
  · have := decDigits_dig _ b hb; omega
theorem itoa_ne (n : Int) : 0 < (Lib.itoa n).length := by
  unfold Lib.itoa
  split
  · simp
  · exact List.length_pos_iff.2 (decDigits_ne _)
theorem sg_dig {b : UInt8} (h : 48 ≤ b.toNat ∧ b.toNat ≤ 57) : SG.contains b = false := by
  cases hc : SG.contains b with
  | false => rfl
  | true =>
    have : b = 43 ∨ b = 45 := by simpa [SG] using hc
    rcases this with rfl | rfl <;> simp at h
theorem sgn_in (y : Int) : SG.contains (sgn y) = true := by unfold sgn; split <;> decide
theorem sgn_ascii (y : Int) : (sgn y).toNat < 128 := by unfold sgn; split <;> decide
theorem right_len {x y : Int} (h : rightB x y = true) : (Lib.itoa x).length ≤ 21 ∧ (Lib.itoa (max y (-y))).length ≤ 21 := by
  obtain ⟨a1, a2, a3, a4⟩ := rightB_true.1 h
  exact ⟨Lib.itoa_length_le x (by omega) (by omega), Lib.itoa_length_le _ (by omega) (by omega)⟩
theorem nDigits_le : ∀ (k u : Nat), u < 10 ^ (k + 1) → Lib.nDigits u ≤ k + 1
  | 0, u, h => by rw [Lib.nDigits_small (by simpa using h)]; exact Nat.le_refl _
  | k + 1, u, h => by
    by_cases hu : u < 10
    · rw [Lib.nDigits_small hu]; omega
    · rw [Lib.nDigits_big hu]
      have := nDigits_le k (u / 10) (by rw [Nat.pow_succ] at h; exact Nat.div_lt_of_lt_mul (by rw [Nat.mul_comm]; exact h))
      omega
theorem dec_right {x : Int} (h : -1048576 ≤ x ∧ x ≤ 1048576) : (Lib.itoa x).length ≤ 8 := by
  have key : ∀ u : Nat, u ≤ 1048576 → (Lib.decDigits u).length ≤ 7 := by
    intro u hu
    rw [Lib.decDigits_length]
    exact nDigits_le 6 u (by omega)
  by_cases hx : x < 0
  · obtain ⟨u, rfl⟩ : ∃ u : Nat, x = -(u : Int) := ⟨x.natAbs, by omega⟩
    rw [Lib.itoa_neg u (by omega)]
    have := key u (by omega)
    simp; omega
  · obtain ⟨u, rfl⟩ : ∃ u : Nat, x = (u : Int) := ⟨x.toNat, by omega⟩
    rw [Lib.itoa_nonneg]
    have := key u (by omega)
    omega
theorem print_facts {s : ByteArray} {x y : Int} (h : rightB x y = true) (hs : s.toList = printL x y) {k : Int} (hk : LiaP s k) :
    k = ((Lib.itoa x).length : Int) ∧ s.size ≤ 30 ∧ Lib.hasSuffix s.data.toList [105] = true ∧ Lib.trimSuffix s.data.toList [105] = Lib.itoa x ++ sgn y :: Lib.itoa (max y (-y)) := by
  obtain ⟨a1, a2, a3, a4⟩ := rightB_true.1 h
  have l1 := dec_right (x := x) ⟨by omega, by omega⟩
  have l2 := dec_right (x := max y (-y)) ⟨by omega, by omega⟩
  rw [printL_eq] at hs
  have hM := itoa_dig (max y (-y)) (by omega)
  generalize hMM : Lib.itoa (max y (-y)) = M at hs l2 hM ⊢
  have hA := itoa_ascii x
  generalize hAA : Lib.itoa x = A at hs l1 hA ⊢
  have hasc : ∀ b ∈ s.toList, b.toNat < 128 := by
    intro b hb
    rw [hs] at hb
    simp only [List.mem_append, List.mem_cons, List.mem_singleton, List.not_mem_nil, or_false] at hb
    rcases hb with (hb | rfl | hb) | rfl
    · exact hA b hb
    · exact sgn_ascii y
    · have := hM b hb; omega
    · decide
  have hlen : s.size = A.length + 1 + M.length + 1 := by rw [← toList_len, hs]; simp; omega
  have hAt : s.toList[A.length]? = some (sgn y) := by rw [hs]; simp
  have hAfter : ∀ (j : Nat) (b : UInt8), A.length < j → s.toList[j]? = some b → SG.contains b = false := by
    intro j b hj hb
    rw [hs] at hb
    obtain ⟨d, rfl⟩ : ∃ d, j = A.length + (d + 1) := ⟨j - A.length - 1, by omega⟩
    have e : (A ++ sgn y :: M ++ [105])[A.length + (d + 1)]? = (M ++ [105])[d]? := by
      rw [show A ++ sgn y :: M ++ [105] = A ++ (sgn y :: (M ++ [105])) by simp, List.getElem?_append_right (by omega)]
      simp
    rw [e] at hb
    rcases List.mem_append.1 (List.mem_of_getElem? hb) with hm | hm
    · exact sg_dig (hM b hm)
    · rw [List.mem_singleton.1 hm]; decide
  have hd : s.data.toList = A ++ sgn y :: M ++ [105] := by rw [← ByteArray.toList_eq, hs]
  have hsf : Lib.hasSuffix s.data.toList [105] = true := by
    rw [hd]
    show List.isSuffixOf [105] _ = true
    rw [List.isSuffixOf_iff_suffix]; exact List.suffix_append _ _
  refine ⟨?_, by omega, hsf, ?_⟩
  · rcases hk.2 hasc with ⟨-, h2⟩ | ⟨i, rfl, ⟨b, hb, hc⟩, h2⟩
    · have := h2 _ (List.mem_of_getElem? hAt)
      rw [sgn_in] at this; cases this
    · rcases Nat.lt_trichotomy i A.length with h3 | h3 | h3
      · have := h2 A.length _ h3 hAt
        rw [sgn_in] at this; cases this
      · rw [h3]
      · have := hAfter i b h3 hb
        rw [hc] at this; cases this
  · unfold Lib.trimSuffix
    rw [if_pos hsf, hd, List.take_append_of_le_length (by simp)]
    exact List.take_of_length_le (by simp)
theorem ext_from (s : ByteArray) (m : Nat) : (s.extract m s.size).toList = s.toList.drop m := by
  rw [ByteArray.toList_eq, ByteArray.toList_eq, ByteArray.data_extract, Array.toList_extract, List.extract_eq_take_drop]
  rw [List.take_of_length_le]
  simp
theorem atoi_sgn (y : Int) (h : -1048576 ≤ y ∧ y ≤ 1048576) : Lib.atoiAll (sgn y :: Lib.itoa (max y (-y))) = .ok y := by
  unfold sgn
  split
  · rename_i hy
    rw [← itoa_minus y hy]
    exact atoi_itoa y (by omega) (by omega)
  · rename_i hy
    rw [show max y (-y) = y by omega]
    have h1 := atoi_itoa y (by omega) (by omega)
    have hd := itoa_dig y (by omega)
    cases hl : Lib.itoa y with
    | nil => have := itoa_ne y; rw [hl] at this; simp at this
    | cons c r =>
      rw [hl] at h1
      have hc := hd c (by rw [hl]; exact List.mem_cons_self ..)
      rw [Lib.atoiAll_plain c r (by omega) (by omega)] at h1
      rw [Lib.atoiAll_plus]
      exact h1
/-- What a reading of a text is. -/
def PSpec (s : ByteArray) (e : Ending) : Prop := (∃ x y : Int, e = .returned (.tuple #[pt x y, .int .i64 0]) ∧ rightB x y = true ∧ s.toList = printL x y ∧ ∀ x' y' : Int, rightB x' y' = true → s.toList = printL x' y' → x' = x ∧ y' = y) ∨ (e = .returned (.tuple #[pt 0 0, .int .i64 90]) ∧ ∀ x y : Int, rightB x y = true → ¬ s.toList = printL x y)
theorem ret_pt {fn : Func} {p q : Nat} {tmps : Array Value} {w : World} {R : Ending → World → Prop} {b T : Nat} {v0 v1 u1 : Value} (hfn : fn.results = #[.cell p 23, .tmp q])
    (h4 : tmps[p]?.getD undef = .pointer (some ⟨b, 0, none⟩)) (h5 : tmps[q]?.getD undef = u1) (hb : w.heap[b]? = some (.cells #[v0, v1] T (0, 0)))
    (hR : R (.returned (.tuple #[.agg #[v0, v1], u1])) w) : bodyPost Tryd.prog fn R .ret { tmps := tmps, defers := [] } w := by
  obtain ⟨c0, c1⟩ := cells2 hb
  refine bodyPost_ret (v := .tuple #[.agg #[v0, v1], u1]) ?_ rfl hR
  simp [results, hfn, go_sem, h4, h5, c0, c1]
set_option maxHeartbeats 4000000 in
/-- point.Parse -/
theorem parse_is (s : ByteArray) (w : World) (hs : s.size ≤ 1000000000000000000) (hT : Tab w) (hE : ErrV w) (hU : Lib.Utf8Tabs 4 5 w) :
    Calls Tryd.prog 25 #[.string s] w fun e w' => PSpec s e ∧ Below w.heap.size w w' := by
  have HT := Lib.hid hT
  have HE := Lib.hid hE
  have HN := Lib.hid (new1 w #[.int .i64 0, .int .i64 0] 23)
  have HL := Lib.hid (fun (wx : World) (hb : Below w.heap.size w wx) => lia_any s wx (by omega) (Utf8Tabs_below hU hb))
  obtain ⟨l, hl⟩ : ∃ l : ByteArray, l = ⟨(Lib.trimSuffix s.data.toList [105]).toArray⟩ := ⟨_, rfl⟩
  obtain ⟨ok, hok⟩ : ∃ ok, ok = Lib.hasSuffix s.data.toList [105] := ⟨_, rfl⟩
  have HC := Lib.hid (fun (wx : World) => (Tryd.strings_CutSuffix s ⟨#[105]⟩ wx (by omega)).mono (R' := fun e w' => e = .returned (.tuple #[.string l, .bool ok]) ∧ wx = w') (fun e w' h => ⟨by rw [h.1, hl, hok], h.2.symm⟩))
  have HF := Lib.hid (show ∀ k : Int, LiaP s k → ∀ x y : Int, rightB x y = true → s.toList = printL x y → k = ((Lib.itoa x).length : Int) ∧ s.size ≤ 30 ∧ ok = true ∧ l.toList = Lib.itoa x ++ sgn y :: Lib.itoa (max y (-y)) from fun k hk x y h1 h2 => by
    obtain ⟨e1, e2, e3, e4⟩ := print_facts h1 h2 hk
    exact ⟨e1, e2, by rw [hok, e3], by rw [hl, e4, ByteArray.toList_eq]⟩)
  have HLZ := Lib.hid (show ok = true → l.size + 1 = s.size from fun h => by
    rw [hok] at h
    have h2 : [105] <:+ s.data.toList := List.isSuffixOf_iff_suffix.1 h
    obtain ⟨a, ha⟩ := h2
    have hs2 : s.toList = a ++ [105] := by rw [ByteArray.toList_eq, ha]
    rw [hl, ← toList_len s, hs2]
    show (Lib.trimSuffix s.data.toList [105]).toArray.size + 1 = _
    unfold Lib.trimSuffix
    rw [if_pos h, ← ha]
    simp)
  clear hl hok hT hE hU
  go_enter Tryd.func25, Tryd.ntmps25
  go_upto_region 1 with fail
  obtain ⟨w1, hw1⟩ : ∃ w1, w1 = w.alloc (.cells #[.int .i64 0, .int .i64 0] 23) := ⟨_, rfl⟩
  rw [← hw1] at HN ⊢
  clear hw1
  go_cut [0, 2, 4] (fun s0 s2 s4 wx => ∃ k : Int, s0 = .string s ∧ s2 = .pointer (some ⟨w.heap.size, 0, none⟩) ∧ s4 = .int .i64 k ∧ RowKit.Hid (LiaP s k) ∧ RowKit.Hid (wx.heap[w.heap.size]? = some (.cells #[.int .i64 0, .int .i64 0] 23 (0, 0))) ∧ RowKit.Hid (Below w.heap.size w wx))
  case first =>
    go_wp2_with (go_at_call 34; refine Calls.mono (HL.out _ HN.out.2) ?_; (rintro e w2 ⟨k, rfl, hk, hb2⟩; have HK := Lib.hid hk; clear hk; have HX2 := Lib.hid (keep_blk hb2 HN.out.1); have HB2 := Lib.hid (HN.out.2.trans (hb2.mono HN.out.2.size)); clear hb2))
    go_meet
    exact ⟨k, rfl, rfl, rfl, HK, HX2, HB2⟩
  case rest =>
    clear HN HL
    obtain ⟨k, rfl, rfl, rfl, HK, HX, HB⟩ := hcut
    have HF2 := Lib.hid (HF.out k HK.out)
    have hkr := HK.out.1
    obtain ⟨x0, x1⟩ := cells2 HX.out
    obtain ⟨f0, f1⟩ := frees2 HX.out
    by_cases hgo : 1 ≤ k ∧ ok = true ∧ s.size ≤ 30
    · obtain ⟨hk1, rfl, h30⟩ := hgo
      obtain ⟨kn, rfl⟩ : ∃ kn : Nat, k = (kn : Int) := ⟨k.toNat, by omega⟩
      have hlz := HLZ.out rfl
      have hkl : kn ≤ l.size := by omega
      obtain ⟨P1, hP1⟩ : ∃ P1, l.extract 0 kn = P1 := ⟨_, rfl⟩
      obtain ⟨P2, hP2⟩ : ∃ P2, l.extract kn l.size = P2 := ⟨_, rfl⟩
      have hz1 : P1.size ≤ 1000000 := by rw [← hP1]; simp; omega
      have hz2 : P2.size ≤ 1000000 := by rw [← hP2]; simp; omega
      have HA1 := Lib.hid (fun (wx : World) (hE : ErrV wx) => (atoi_any P1 wx hz1 hE).mono (R' := fun e w' => ∃ (n : Int) (b : Bool) (p : Value), e = .returned (.tuple #[.int .i64 n, cond b .nilIface (.iface 75 p)]) ∧ (∀ x y : Int, rightB x y = true → s.toList = printL x y → n = x ∧ b = true) ∧ (b = true → -9223372036854775808 ≤ n ∧ n ≤ 9223372036854775807) ∧ Below wx.heap.size wx w') (fun e w' h => by
        obtain ⟨n, b, p, e1, e2, e3, e4⟩ := h
        refine ⟨n, b, p, e1, fun x y h1 h2 => e2 x ?_, e3, e4⟩
        obtain ⟨g1, -, -, g4⟩ := HF2.out x y h1 h2
        have g1' : kn = (Lib.itoa x).length := by omega
        obtain ⟨a1, a2, a3, a4⟩ := rightB_true.1 h1
        rw [← ByteArray.toList_eq, ← hP1, ext_list, g4, g1', List.take_left' rfl]
        exact atoi_itoa x (by omega) (by omega)))
      have HA2 := Lib.hid (fun (wx : World) (hE : ErrV wx) => (atoi_any P2 wx hz2 hE).mono (R' := fun e w' => ∃ (n : Int) (b : Bool) (p : Value), e = .returned (.tuple #[.int .i64 n, cond b .nilIface (.iface 75 p)]) ∧ (∀ x y : Int, rightB x y = true → s.toList = printL x y → n = y ∧ b = true) ∧ (b = true → -9223372036854775808 ≤ n ∧ n ≤ 9223372036854775807) ∧ Below wx.heap.size wx w') (fun e w' h => by
        obtain ⟨n, b, p, e1, e2, e3, e4⟩ := h
        refine ⟨n, b, p, e1, fun x y h1 h2 => e2 y ?_, e3, e4⟩
        obtain ⟨g1, -, -, g4⟩ := HF2.out x y h1 h2
        have g1' : kn = (Lib.itoa x).length := by omega
        obtain ⟨a1, a2, a3, a4⟩ := rightB_true.1 h1
        rw [← ByteArray.toList_eq, ← hP2, ext_from, g4, g1', List.drop_left' rfl]
        exact atoi_sgn y ⟨by omega, by omega⟩))
      have h1b : decide ((kn : Int) < 1) = false := by simp; omega
      have h2b : decide ((30 : Int) < (s.size : Int)) = false := by simp; omega
      have hs0 := Lib.hid (show ¬ s.toList = [] from fun h => by have := toList_len s; rw [h] at this; simp at this; omega)
      clear HF HF2 HK hkr
      go_upto_region 5 with (go_at_call 35; refine Calls.mono (HC.out _) ?_; rintro e w3 ⟨rfl, rfl⟩)
      go_cut [0, 2, 4, 5, 7, 8] (fun s0 s2 s4 s5 s7 s8 wx => ∃ (n : Int) (b : Bool) (p : Value), s0 = .string s ∧ s2 = .pointer (some ⟨w.heap.size, 0, none⟩) ∧ s4 = .int .i64 (kn : Int) ∧ s5 = .string l ∧ s7 = .int .i64 n ∧ s8 = cond b .nilIface (.iface 75 p) ∧ RowKit.Hid (∀ x y : Int, rightB x y = true → s.toList = printL x y → n = x ∧ b = true) ∧ RowKit.Hid (b = true → -9223372036854775808 ≤ n ∧ n ≤ 9223372036854775807) ∧ RowKit.Hid (wx.heap[w.heap.size]? = some (.cells #[.int .i64 0, .int .i64 0] 23 (0, 0))) ∧ RowKit.Hid (Below w.heap.size w wx))
      case first =>
        go_wp2_with (go_at_call 36; (try rw [hP1]); refine Calls.mono (HA1.out _ (HE.out.keep HB.out)) ?_; (rintro e w3 ⟨n, b, p, rfl, hn, hr, hb3⟩; have HN1 := Lib.hid hn; have HR1 := Lib.hid hr; have HX3 := Lib.hid (keep_blk hb3 HX.out); have HB3 := Lib.hid (HB.out.trans (hb3.mono HB.out.size)); clear hn hr hb3))
        go_meet
        exact ⟨n, b, p, rfl, rfl, rfl, rfl, rfl, rfl, HN1, HR1, HX3, HB3⟩
      case rest =>
        clear HX HB x0 x1 f0 f1 HA1
        obtain ⟨n1, b1, p1, rfl, rfl, rfl, rfl, rfl, rfl, HN1, HR1, HX, HB⟩ := hcut
        go_upto_region 6 with fail
        go_cut [0, 2, 7, 8, 9, 10] (fun s0 s2 s7 s8 s9 s10 wx => ∃ (n : Int) (b : Bool) (p : Value), s0 = .string s ∧ s2 = .pointer (some ⟨w.heap.size, 0, none⟩) ∧ s7 = .int .i64 n1 ∧ s8 = cond b1 .nilIface (.iface 75 p1) ∧ s9 = .int .i64 n ∧ s10 = cond b .nilIface (.iface 75 p) ∧ RowKit.Hid (∀ x y : Int, rightB x y = true → s.toList = printL x y → n = y ∧ b = true) ∧ RowKit.Hid (b = true → -9223372036854775808 ≤ n ∧ n ≤ 9223372036854775807) ∧ RowKit.Hid (wx.heap[w.heap.size]? = some (.cells #[.int .i64 0, .int .i64 0] 23 (0, 0))) ∧ RowKit.Hid (Below w.heap.size w wx))
        case first =>
          go_wp2_with (go_at_call 36; (try rw [hP2]); refine Calls.mono (HA2.out _ (HE.out.keep HB.out)) ?_; (rintro e w3 ⟨n, b, p, rfl, hn, hr, hb3⟩; have HN2 := Lib.hid hn; have HR2 := Lib.hid hr; have HX3 := Lib.hid (keep_blk hb3 HX.out); have HB3 := Lib.hid (HB.out.trans (hb3.mono HB.out.size)); clear hn hr hb3))
          go_meet
          exact ⟨n, b, p, rfl, rfl, rfl, rfl, rfl, rfl, HN2, HR2, HX3, HB3⟩
        case rest =>
          clear HX HB HA2 hP1 hP2 hz1 hz2
          obtain ⟨n2, b2, p2, rfl, rfl, rfl, rfl, rfl, rfl, HN2, HR2, HX, HB⟩ := hcut
          obtain ⟨x0, x1⟩ := cells2 HX.out
          obtain ⟨f0, f1⟩ := frees2 HX.out
          have hkw := lt_of_blk HX.out
          cases b1 with
          | false =>
            have HNO := Lib.hid (show ∀ x y : Int, rightB x y = true → ¬ s.toList = printL x y from fun x y h1 h2 => by have := (HN1.out x y h1 h2).2; cases this)
            cases b2
            all_goals
              dsimp only [cond]
              go_wp2_with fail
              all_goals
                refine ret_pt rfl rfl rfl (blk_new (sets2 _ _ HX.out) _) ?_
                exact ⟨.inr ⟨rfl, HNO.out⟩, (below_sets2 HB.out (Nat.le_refl _)).alloc (below_sets2 HB.out (Nat.le_refl _)).size _⟩
          | true =>
            cases b2 with
            | false =>
              have HNO := Lib.hid (show ∀ x y : Int, rightB x y = true → ¬ s.toList = printL x y from fun x y h1 h2 => by have := (HN2.out x y h1 h2).2; cases this)
              dsimp only [cond]
              go_wp2_with fail
              refine ret_pt rfl rfl rfl (blk_new (sets2 _ _ HX.out) _) ?_
              exact ⟨.inr ⟨rfl, HNO.out⟩, (below_sets2 HB.out (Nat.le_refl _)).alloc (below_sets2 HB.out (Nat.le_refl _)).size _⟩
            | true =>
              dsimp only [cond]
              have HP := Lib.hid (fun (wx : World) (hT : Tab wx) => Print_any n1 n2 wx hT)
              have HPS := Lib.hid (show printS n1 n2 = if rightB n1 n2 = true then ⟨(printL n1 n2).toArray⟩ else ⟨#[]⟩ from rfl)
              generalize printS n1 n2 = PS at HP HPS
              cases hq : (PS.toList == s.toList) with
              | false =>
                have HNO := Lib.hid (show ∀ x y : Int, rightB x y = true → ¬ s.toList = printL x y from fun x y h1 h2 => by
                  obtain ⟨e1, -⟩ := HN1.out x y h1 h2
                  obtain ⟨e2, -⟩ := HN2.out x y h1 h2
                  have e3 := HPS.out
                  rw [e1, e2, h1, if_pos rfl] at e3
                  have e4 : PS.toList = s.toList := by rw [e3, h2, ByteArray.toList_eq]
                  rw [e4] at hq
                  simp at hq)
                go_wp2_with (go_at_call 24; refine Calls.mono (HP.out _ (HT.out.keep (HB.out.alloc HB.out.size _))) ?_; (rintro e w4 ⟨rfl, hb4⟩; have HX4 := Lib.hid (keep_blk hb4 (blk_new HX.out _)); have HB4 := Lib.hid ((HB.out.alloc HB.out.size _).trans (hb4.mono (HB.out.alloc HB.out.size _).size)); clear hb4 x0 x1 f0 f1; obtain ⟨x0, x1⟩ := cells2 HX4.out; obtain ⟨f0, f1⟩ := frees2 HX4.out))
                refine ret_pt rfl rfl rfl (sets2 _ _ HX4.out) ?_
                exact ⟨.inr ⟨rfl, HNO.out⟩, below_sets2 HB4.out (Nat.le_refl _)⟩
              | true =>
                have hPe : PS.toList = s.toList := by simpa using hq
                have HYES := Lib.hid (show rightB n1 n2 = true ∧ s.toList = printL n1 n2 by
                  have e3 := HPS.out
                  cases hr : rightB n1 n2 with
                  | false =>
                    rw [hr, if_neg (by decide)] at e3
                    exact absurd (by rw [← hPe, e3]; decide +kernel) hs0.out
                  | true =>
                    rw [hr, if_pos rfl] at e3
                    exact ⟨rfl, by rw [← hPe, e3, ByteArray.toList_eq]⟩)
                have HG := Lib.hid (fun (wx : World) => heap_alloc_new wx (.cells #[.int .i64 n1, .int .i64 n2] 23))
                clear hPe
                go_wp2_with (go_at_call 24; refine Calls.mono (HP.out _ (HT.out.keep (HB.out.alloc HB.out.size _))) ?_; (rintro e w4 ⟨rfl, hb4⟩; have HX4 := Lib.hid (keep_blk hb4 (blk_new HX.out _)); have HG4 := Lib.hid (keep_blk hb4 (HG.out wc)); have HB4 := Lib.hid ((HB.out.alloc HB.out.size _).trans (hb4.mono (HB.out.alloc HB.out.size _).size)); clear hb4 x0 x1 f0 f1; obtain ⟨x0, x1⟩ := cells2 HX4.out; obtain ⟨f0, f1⟩ := frees2 HX4.out; obtain ⟨y0, y1⟩ := cells2 HG4.out))
                refine ret_pt rfl rfl rfl (sets2 _ _ HX4.out) ?_
                exact ⟨.inl ⟨n1, n2, rfl, HYES.out.1, HYES.out.2, fun x' y' h1 h2 => ⟨(HN1.out x' y' h1 h2).1.symm, (HN2.out x' y' h1 h2).1.symm⟩⟩, below_sets2 HB4.out (Nat.le_refl _)⟩
    · have HNO := Lib.hid (show ∀ x y : Int, rightB x y = true → ¬ s.toList = printL x y from fun x y h1 h2 => hgo (by
        obtain ⟨e1, e2, e3, e4⟩ := HF2.out x y h1 h2
        have := itoa_ne x
        exact ⟨by omega, e3, e2⟩))
      have cases3 : k < 1 ∨ (1 ≤ k ∧ ok = false) ∨ (1 ≤ k ∧ ok = true ∧ 30 < s.size) := by
        by_cases h1 : k < 1
        · exact .inl h1
        · cases ok
          · exact .inr (.inl ⟨by omega, rfl⟩)
          · exact .inr (.inr ⟨by omega, rfl, by by_cases h2 : s.size ≤ 30; exact absurd ⟨by omega, rfl, h2⟩ hgo; omega⟩)
      clear hgo
      rcases cases3 with h1 | ⟨h1, rfl⟩ | ⟨h1, rfl, h2⟩
      · have h1b : decide (k < 1) = true := by simpa using h1
        go_wp2_with (go_at_call 35; refine Calls.mono (HC.out _) ?_; rintro e w3 ⟨rfl, rfl⟩)
        refine ret_pt rfl rfl rfl (sets2 _ _ HX.out) ?_
        exact ⟨.inr ⟨rfl, HNO.out⟩, below_sets2 HB.out (Nat.le_refl _)⟩
      · have h1b : decide (k < 1) = false := by simp; omega
        go_wp2_with (go_at_call 35; refine Calls.mono (HC.out _) ?_; rintro e w3 ⟨rfl, rfl⟩)
        refine ret_pt rfl rfl rfl (sets2 _ _ HX.out) ?_
        exact ⟨.inr ⟨rfl, HNO.out⟩, below_sets2 HB.out (Nat.le_refl _)⟩
      · have h1b : decide (k < 1) = false := by simp; omega
        have h2b : decide ((30 : Int) < (s.size : Int)) = true := by simp; omega
        go_wp2_with (go_at_call 35; refine Calls.mono (HC.out _) ?_; rintro e w3 ⟨rfl, rfl⟩)
        refine ret_pt rfl rfl rfl (sets2 _ _ HX.out) ?_
        exact ⟨.inr ⟨rfl, HNO.out⟩, below_sets2 HB.out (Nat.le_refl _)⟩
end Go.Proofs.YthncmfchphigdaaDoor.T
