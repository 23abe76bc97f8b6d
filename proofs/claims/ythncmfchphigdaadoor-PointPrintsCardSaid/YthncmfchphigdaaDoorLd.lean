import Derived.Deep.DeepCutAuto
import Derived.Laws.OwnMore
import Derived.OwnWalk
import Derived.Lib.AppendStr
import Derived.Lib.SliceRun
import Derived.Lib.SmallJoins
import Derived.IntWalk
import Derived.Lib.ItoaLen
import Derived.WalkMore
import Derived.Lib.AtoiAllCases
import Derived.Lib.OthersKept
import Derived.Laws.Runes
import Derived.Deep.LoopGhost
import Derived.Deep.RegionLaw
import Derived.Deep.AppendLies
import Derived.Test.YthncmfchphigdaaDoorProg
import Derived.Test.YthncmfchphigdaaDoorMem
import Derived.Test.YthncmfchphigdaaDoorBlk
import Derived.Test.YthncmfchphigdaaDoorLc
import Derived.Test.YthncmfchphigdaaDoorPt4
import Derived.WalkKit
import Derived.Outline
import Derived.WalkLawsBesides
import Derived.Deep.QuietTactic
import Derived.BigQuiet
import Derived.Lib.Hide
import Derived.Handy
import Derived.Deep.RegionHeld3
import Derived.Deep.DrawnRows
import Derived.KernelRfl
import Derived.Great.Walk
import Derived.Test.YthncmfchphigdaaDoorOwn
namespace Go.Proofs.YthncmfchphigdaaDoor.T
open Go Go.RowKit Go.Sort Mem Own
set_option maxRecDepth 100000
set_option maxHeartbeats 1000000
set_option linter.unusedVariables false
set_option linter.unusedSimpArgs false

/-- A numeral. -/
def decB (n : Int) : ByteArray := ⟨(Lib.itoa n).toArray⟩
theorem ba_ext {a b : ByteArray} (h : a.toList = b.toList) : a = b := by
  rw [ByteArray.toList_eq, ByteArray.toList_eq] at h
  exact ByteArray.ext (Array.toList_inj.1 h)
theorem parse_snoc : ∀ (l : List UInt8) (acc u : Nat) (c : UInt8), Lib.parseUint10 acc l = .ok u → 48 ≤ c.toNat → c.toNat ≤ 57 → u * 10 + (c.toNat - 48) < 18446744073709551616 → Lib.parseUint10 acc (l ++ [c]) = .ok (u * 10 + (c.toNat - 48))
  | [], acc, u, c, h, h1, h2, h3 => by
    simp only [Lib.parseUint10] at h
    injection h with h
    subst h
    simp only [List.nil_append, Lib.parseUint10]
    rw [if_pos ⟨h1, h2⟩, if_neg (by omega), if_neg (by omega)]
  | b :: r, acc, u, c, h, h1, h2, h3 => by
    simp only [Lib.parseUint10] at h
    simp only [List.cons_append, Lib.parseUint10]
    split at h
    · rename_i hb
      rw [if_pos hb]
      split at h
      · cases h
      · rename_i h4
        rw [if_neg h4]
        split at h
        · cases h
        · rename_i h5
          rw [if_neg h5]
          exact parse_snoc r _ u c h h1 h2 h3
    · cases h
theorem parse_digits : ∀ (u : Nat), u < 18446744073709551616 → Lib.parseUint10 0 (Lib.decDigits u) = .ok u := by
  intro u
  induction u using Nat.strongRecOn with
  | _ u ih =>
    intro hu
    have hb : ∀ k, k < 10 → (UInt8.ofNat (48 + k)).toNat = 48 + k := fun k hk => by rw [UInt8.toNat_ofNat']; omega
    rw [Lib.decDigits]
    split
    · rename_i h
      simp only [Lib.parseUint10, hb u h]
      rw [if_pos (by omega), if_neg (by omega), if_neg (by omega)]
      congr 1; omega
    · rename_i h
      have := parse_snoc (Lib.decDigits (u / 10)) 0 (u / 10) (UInt8.ofNat (48 + u % 10)) (ih (u / 10) (by omega) (by omega)) (by rw [hb _ (by omega)]; omega) (by rw [hb _ (by omega)]; omega) (by rw [hb _ (by omega)]; omega)
      rw [this, hb _ (by omega)]
      congr 1; omega
theorem decDigits_ne (u : Nat) : Lib.decDigits u ≠ [] := by
  intro h; have := Lib.decDigits_length u; rw [h] at this; have := Lib.nDigits_pos u; simp at *; omega
/-- The bytes of digits are digits. -/
theorem decDigits_dig : ∀ (u : Nat), ∀ b ∈ Lib.decDigits u, 48 ≤ b.toNat ∧ b.toNat ≤ 57 := by
  intro u
  induction u using Nat.strongRecOn with
  | _ u ih =>
    intro b hb
    have hk : ∀ k, k < 10 → (UInt8.ofNat (48 + k)).toNat = 48 + k := fun k hk => by rw [UInt8.toNat_ofNat']; omega
    rw [Lib.decDigits] at hb
    split at hb
    · rename_i h
      simp only [List.mem_singleton] at hb
      subst hb
      rw [hk u h]; omega
    · rename_i h
      rcases List.mem_append.1 hb with hb | hb
      · exact ih _ (by omega) b hb
      · simp only [List.mem_singleton] at hb
        subst hb
        rw [hk _ (by omega)]; omega
theorem atoi_itoa (n : Int) (h0 : -9223372036854775808 ≤ n) (h1 : n ≤ 9223372036854775807) : Lib.atoiAll (Lib.itoa n) = .ok n := by
  by_cases hn : n < 0
  · obtain ⟨u, rfl⟩ : ∃ u : Nat, n = -(u : Int) := ⟨n.natAbs, by omega⟩
    rw [Lib.itoa_neg u (by omega)]
    have hp := parse_digits u (by omega)
    rw [Lib.atoiAll_minus]
    unfold Lib.parseMag
    rw [if_neg (decDigits_ne u), hp]
    simp only [Lib.signed]
    rw [if_neg (by omega)]
  · obtain ⟨u, rfl⟩ : ∃ u : Nat, n = (u : Int) := ⟨n.toNat, by omega⟩
    rw [Lib.itoa_nonneg]
    have hp := parse_digits u (by omega)
    cases hd : Lib.decDigits u with
    | nil => exact absurd hd (decDigits_ne u)
    | cons c r =>
      have hc := decDigits_dig u c (by rw [hd]; exact List.mem_cons_self ..)
      rw [hd] at hp
      rw [Lib.atoiAll_plain c r (by omega) (by omega)]
      unfold Lib.parseMag
      rw [if_neg (by simp), hp]
      simp only [Lib.signless]
      rw [if_neg (by omega)]
theorem itoa_plain (n : Int) : ∀ b ∈ Lib.itoa n, ¬ b = 13 ∧ ¬ b = 10 := by
  intro b hb
  have key : b = 45 ∨ (48 ≤ b.toNat ∧ b.toNat ≤ 57) := by
    unfold Lib.itoa at hb
    split at hb
    · rcases List.mem_cons.1 hb with h | h
      · exact .inl h
      · exact .inr (decDigits_dig _ b h)
    · exact .inr (decDigits_dig _ b hb)
  rcases key with rfl | h
  · decide
  · constructor <;> (rintro rfl; simp at h)
/-- The two errors that Atoi tells of lie where they were laid. -/
def ErrV (w : World) : Prop := ∃ (t1 t2 : TypeId) (p1 p2 : Value), w.var? Tryd.prog "strconv.ErrSyntax" = some #[.iface t1 p1] ∧ w.var? Tryd.prog "strconv.ErrRange" = some #[.iface t2 p2]
theorem ErrV.keep {w w' : World} (h : ErrV w) (hb : Below w.heap.size w w') : ErrV w' := by
  obtain ⟨t1, t2, p1, p2, h1, h2⟩ := h
  exact ⟨t1, t2, p1, p2, var?_keep hb h1, var?_keep hb h2⟩
/-- strconv.Atoi of any text. -/
theorem atoi_any (s : ByteArray) (w : World) (hs : s.size ≤ 1000000) (he : ErrV w) :
    Calls Tryd.prog 36 #[.string s] w fun e w' => ∃ (n : Int) (b : Bool) (p : Value), e = .returned (.tuple #[.int .i64 n, cond b .nilIface (.iface 75 p)]) ∧ (∀ v : Int, Lib.atoiAll s.data.toList = .ok v → n = v ∧ b = true) ∧ (b = true → -9223372036854775808 ≤ n ∧ n ≤ 9223372036854775807) ∧ Below w.heap.size w w' := by
  obtain ⟨t1, t2, p1, p2, h1, h2⟩ := he
  cases hq : Lib.atoiAll s.data.toList with
  | ok v =>
    refine (Tryd.strconv_Atoi_ok s (by omega) v hq w).mono fun e w' h => ⟨v, true, .nilIface, h.1, fun v' e => ?_, fun _ => ?_, ?_⟩
    · injection e with e; exact ⟨e, rfl⟩
    · exact Lib.atoiAll_bounds hq
    · rcases h.2 with h | ⟨t, h⟩
      · rw [h]; exact Below.refl _ _
      · rw [h]; exact Joins.below_bytesWorld _ _ _ _ (Nat.le_refl _)
  | range =>
    refine (Any.strconv_Atoi_range_var Tryd.laysC172 s (by omega) hq t2 p2 w h2).mono fun e w' h => ?_
    obtain ⟨N, e1, -, -, hb⟩ := h
    exact ⟨_, false, _, e1, fun v e => (by cases e), fun h => (by cases h), hb⟩
  | _ =>
    refine (Any.strconv_Atoi_syntax_var Tryd.laysC172 s (by omega) hq t1 p1 w h1).mono fun e w' h => ?_
    obtain ⟨N, e1, -, -, hb⟩ := h
    exact ⟨_, false, _, e1, fun v e => (by cases e), fun h => (by cases h), hb⟩
theorem conv1 (w : World) (x : UInt8) (z : Int) (h : z = x.toNat) : (convert 72 9 (.slice (some ⟨w.heap.size, 0, none⟩) 1 1)).run Tryd.prog (w.alloc (.cells #[.int .u8 z] 5)) = .ok (.string ⟨#[x]⟩) (w.alloc (.cells #[.int .u8 z] 5)) := by
  subst h
  refine run_convert_bytes_back (P := Tryd.prog) (w.alloc (.cells #[.int .u8 (x.toNat : Int)] 5)) 72 9 5 ⟨w.heap.size, 0, none⟩ 1 [x] Tryd.underlying72 Tryd.underlying5 Tryd.underlying9 fun j hj => ?_
  have hj0 : j = 0 := by simp at hj; omega
  subst hj0
  exact of_blk (heap_alloc_new w (.cells #[.int .u8 (x.toNat : Int)] 5)) 0
theorem below_is : ∀ (u : Nat) (w : World), u ≤ 9223372036854775808 → Calls Tryd.prog 48 #[.int .i64 (-(u : Int))] w fun e w' => e = .returned (.string ⟨(Lib.decDigits u).toArray⟩) ∧ Below w.heap.size w w' := by
  intro u
  induction u using Nat.strongRecOn with
  | ind u ih =>
    intro w hu
    have hz : (48 : Int) + (u : Int) % 10 = ((UInt8.ofNat (48 + u % 10)).toNat : Int) := by rw [UInt8.toNat_ofNat']; omega
    have kc := conv1 w (UInt8.ofNat (48 + u % 10)) _ hz
    have HU := Lib.hid (show Lib.decDigits u = if u < 10 then [UInt8.ofNat (48 + u % 10)] else Lib.decDigits (u / 10) ++ [UInt8.ofNat (48 + u % 10)] by
      rw [Lib.decDigits]
      split
      · rename_i h; rw [Nat.mod_eq_of_lt h]
      · rfl)
    by_cases h10 : 10 ≤ u
    · have HQ := Lib.hid (show (u : Int) / 10 = ((u / 10 : Nat) : Int) by omega)
      have HIH := Lib.hid (fun (wx : World) => ih (u / 10) (by omega) wx (by omega))
      obtain ⟨t, ht⟩ : ∃ t : ByteArray, t = ⟨(Lib.decDigits (u / 10)).toArray⟩ := ⟨_, rfl⟩
      have htl : t.size ≤ 40 := by
        rw [ht]
        have h1 := Lib.itoa_length_le ((u / 10 : Nat) : Int) (by omega) (by omega)
        rw [Lib.itoa_nonneg] at h1
        show (Lib.decDigits (u / 10)).toArray.size ≤ 40
        simp; omega
      have HT2 := Lib.hid ht
      have HE := Lib.hid (show t ++ (⟨#[UInt8.ofNat (48 + u % 10)]⟩ : ByteArray) = ⟨(Lib.decDigits u).toArray⟩ by
        rw [HU.out, if_neg (by omega), ht]
        apply ByteArray.ext
        rw [ByteArray.data_append]
        apply Array.ext'
        simp)
      obtain ⟨s1, hs1⟩ : ∃ s1 : ByteArray, s1 = ⟨#[UInt8.ofNat (48 + u % 10)]⟩ := ⟨_, rfl⟩
      have hz1 : s1.size = 1 := by rw [hs1]; rfl
      rw [← hs1] at kc HE
      have hov : ¬ (9223372036854775807 < t.size + s1.size) := by omega
      clear ih hz hs1 ht htl
      go_enter Tryd.func48, Tryd.ntmps48
      go_wp2_with (go_at_call 48; rw [HQ.out]; refine Calls.mono (HIH.out _) ?_; rintro e w1 ⟨rfl, hb1⟩; rw [← HT2.out])
      go_ret
      exact ⟨by rw [← HE.out]; rfl, (by ((repeat (first | exact Below.refl _ _ | (refine Below.drew ?_) | (refine Go.below_drewN ?_ _) | (refine Below.alloc ?_ (by first | (simp; done) | omega | (simp; omega)) _) | (refine Below.setCell ?_ (by first | (simp; done) | omega | (simp; omega)) _) | (refine Below.trans ?_ (Below.mono (by assumption) (by first | (simp; done) | omega | (simp; omega)))))); done))⟩
    · have HE := Lib.hid (show (⟨#[UInt8.ofNat (48 + u % 10)]⟩ : ByteArray) = ⟨(Lib.decDigits u).toArray⟩ by rw [HU.out, if_pos (by omega)])
      obtain ⟨s1, hs1⟩ : ∃ s1 : ByteArray, s1 = ⟨#[UInt8.ofNat (48 + u % 10)]⟩ := ⟨_, rfl⟩
      rw [← hs1] at kc HE
      have hlt : ¬ (-(u : Int) ≤ -10) := by omega
      clear ih hz hs1 h10
      go_enter Tryd.func48, Tryd.ntmps48
      go_wp2
      go_ret
      exact ⟨by rw [← HE.out]; rfl, (by ((repeat (first | exact Below.refl _ _ | (refine Below.drew ?_) | (refine Go.below_drewN ?_ _) | (refine Below.alloc ?_ (by first | (simp; done) | omega | (simp; omega)) _) | (refine Below.setCell ?_ (by first | (simp; done) | omega | (simp; omega)) _) | (refine Below.trans ?_ (Below.mono (by assumption) (by first | (simp; done) | omega | (simp; omega)))))); done))⟩
/-- ref04.Digits -/
theorem digits_is (n : Int) (w : World) (h0 : -9223372036854775808 ≤ n) (h1 : n ≤ 9223372036854775807) : Calls Tryd.prog 37 #[.int .i64 n] w fun e w' => e = .returned (.string (decB n)) ∧ Below w.heap.size w w' := by
  by_cases hn : n < 0
  · obtain ⟨u, rfl⟩ : ∃ u : Nat, n = -(u : Int) := ⟨n.natAbs, by omega⟩
    have HB := Lib.hid (fun (wx : World) => below_is u wx (by omega))
    obtain ⟨t, ht⟩ : ∃ t : ByteArray, t = ⟨(Lib.decDigits u).toArray⟩ := ⟨_, rfl⟩
    have HT2 := Lib.hid ht
    have hd := Lib.itoa_neg u (by omega)
    have htl : t.size ≤ 40 := by
      rw [ht]
      have h2 := Lib.itoa_length_le (-(u : Int)) (by omega) (by omega)
      rw [hd] at h2
      show (Lib.decDigits u).toArray.size ≤ 40
      simp at h2 ⊢; omega
    have HE := Lib.hid (show (⟨#[45]⟩ : ByteArray) ++ t = decB (-(u : Int)) by
      unfold decB
      rw [hd, ht]
      apply ByteArray.ext
      rw [ByteArray.data_append]
      apply Array.ext'
      simp)
    have hov : ¬ (9223372036854775807 < 1 + t.size) := by omega
    clear ht htl hd
    go_enter Tryd.func37, Tryd.ntmps37
    go_wp2_with (go_at_call 48; refine Calls.mono (HB.out _) ?_; rintro e w1 ⟨rfl, hb1⟩; rw [← HT2.out])
    go_ret
    exact ⟨by rw [← HE.out]; rfl, (by ((repeat (first | exact Below.refl _ _ | (refine Below.drew ?_) | (refine Go.below_drewN ?_ _) | (refine Below.alloc ?_ (by first | (simp; done) | omega | (simp; omega)) _) | (refine Below.setCell ?_ (by first | (simp; done) | omega | (simp; omega)) _) | (refine Below.trans ?_ (Below.mono (by assumption) (by first | (simp; done) | omega | (simp; omega)))))); done))⟩
  · obtain ⟨u, rfl⟩ : ∃ u : Nat, n = (u : Int) := ⟨n.toNat, by omega⟩
    have HB := Lib.hid (fun (wx : World) => below_is u wx (by omega))
    have HE := Lib.hid (show (⟨(Lib.decDigits u).toArray⟩ : ByteArray) = decB (u : Int) by unfold decB; rw [Lib.itoa_nonneg])
    obtain ⟨t, ht⟩ : ∃ t : ByteArray, t = ⟨(Lib.decDigits u).toArray⟩ := ⟨_, rfl⟩
    have HT2 := Lib.hid ht
    rw [← ht] at HE
    clear ht hn
    go_enter Tryd.func37, Tryd.ntmps37
    go_wp2_with (go_at_call 48; refine Calls.mono (HB.out _) ?_; rintro e w1 ⟨rfl, hb1⟩; rw [← HT2.out])
    go_ret
    exact ⟨by rw [← HE.out]; rfl, (by ((repeat (first | exact Below.refl _ _ | (refine Below.drew ?_) | (refine Go.below_drewN ?_ _) | (refine Below.alloc ?_ (by first | (simp; done) | omega | (simp; omega)) _) | (refine Below.setCell ?_ (by first | (simp; done) | omega | (simp; omega)) _) | (refine Below.trans ?_ (Below.mono (by assumption) (by first | (simp; done) | omega | (simp; omega)))))); done))⟩

/-- What a point prints as. -/
def printS (x y : Int) : ByteArray := if rightB x y = true then ⟨(printL x y).toArray⟩ else ⟨#[]⟩
theorem Print_any (x y : Int) (w : World) (hT : Tab w) : Calls Tryd.prog 24 #[pt x y] w fun e w' => e = .returned (.string (printS x y)) ∧ Below w.heap.size w w' := by
  unfold printS
  cases h : rightB x y with
  | true => exact Print_yes x y w h hT
  | false =>
    have HR := Lib.hid (show ∀ wx, Calls Tryd.prog 16 #[pt x y] wx (fun e w' => e = .returned (.bool false) ∧ wx.alloc (.cells #[.int .i64 x, .int .i64 y] 23) = w') from fun wx => by have := Right_any x y wx; rw [h] at this; exact this)
    have hb := Lib.hid (show Below w.heap.size w ((w.alloc (.cells #[.int .i64 x, .int .i64 y] 23)).alloc (.cells #[.int .i64 x, .int .i64 y] 23)) from ((Below.refl _ _).alloc (Nat.le_refl _) _).alloc (by rw [alloc_sz]; omega) _)
    go_enter Tryd.func24, Tryd.ntmps24
    go_wp2_with (go_at_call 16; refine Calls.mono (HR.out _) ?_; rintro e w1 ⟨rfl, rfl⟩)
    go_ret
    exact ⟨rfl, hb.out⟩
theorem printL_app (x y : Int) : printL x y = Lib.itoa x ++ (((if y < 0 then [45] else [43]) ++ Lib.itoa (max y (-y))) ++ [105]) := by simp [printL]
theorem dec_len (n : Int) (h0 : -9223372036854775808 ≤ n) (h1 : n ≤ 9223372036854775807) : (decB n).size ≤ 21 := by
  have := Lib.itoa_length_le n h0 h1
  show (Lib.itoa n).toArray.size ≤ 21
  simp; omega
theorem itoa_minus (y : Int) (h : y < 0) : Lib.itoa y = 45 :: Lib.itoa (max y (-y)) := by
  obtain ⟨u, rfl⟩ : ∃ u : Nat, y = -(u : Int) := ⟨y.natAbs, by omega⟩
  rw [Lib.itoa_neg u (by omega)]
  have : max (-(u : Int)) (- -(u : Int)) = (u : Int) := by omega
  rw [this, Lib.itoa_nonneg]
set_option maxHeartbeats 4000000 in
/-- ref09.Print -/
theorem rprint_any (x y : Int) (w : World) (h0 : -9223372036854775808 ≤ x ∧ x ≤ 9223372036854775807) (h1 : -9223372036854775808 ≤ y ∧ y ≤ 9223372036854775807) : Calls Tryd.prog 26 #[pt x y] w fun e w' => e = .returned (.string (printS x y)) ∧ Below w.heap.size w w' := by
  have HN := Lib.hid (new1 w #[.int .i64 x, .int .i64 y] 23)
  have HR := Lib.hid (fun (wx : World) => (refRight_any x y wx).mono (R' := fun e w' => e = .returned (.bool (rightB x y)) ∧ Below wx.heap.size wx w') (fun e w' h => ⟨h.1, by rw [← h.2]; exact (Below.refl _ _).alloc (Nat.le_refl _) _⟩))
  have HDX := Lib.hid (fun (wx : World) => digits_is x wx h0.1 h0.2)
  have HDY := Lib.hid (fun (wx : World) => digits_is y wx h1.1 h1.2)
  obtain ⟨x0, x1⟩ := cells2 HN.out.1
  have l1 := dec_len x h0.1 h0.2
  have l2 := dec_len y h1.1 h1.2
  cases h : rightB x y with
  | false =>
    have HE := Lib.hid (show printS x y = ⟨#[]⟩ by unfold printS; rw [h]; rfl)
    rw [h] at HR
    go_enter Tryd.func26, Tryd.ntmps26
    go_wp2_with (go_at_call 17; refine Calls.mono (HR.out _) ?_; (rintro e w1 ⟨rfl, hb1⟩; have HB1 := Lib.hid (HN.out.2.trans (hb1.mono HN.out.2.size)); clear hb1))
    go_ret
    exact ⟨by rw [HE.out]; rfl, HB1.out⟩
  | true =>
    rw [h] at HR
    by_cases hy : y < 0
    · have HE := Lib.hid (show decB x ++ decB y ++ (⟨#[105]⟩ : ByteArray) = printS x y by
        unfold printS; rw [h, if_pos rfl, printL_app, if_pos hy]
        unfold decB
        rw [itoa_minus y hy]
        apply ByteArray.ext
        simp)
      obtain ⟨hx0, hx1⟩ := h0
      obtain ⟨hy0, hy1⟩ := h1
      have n1 : ¬ 9223372036854775807 < (decB x).size + (decB y).size := by omega
      have n2 : ¬ 9223372036854775807 < (decB x).size + (decB y).size + 1 := by omega
      clear HDX HDY
      go_enter Tryd.func26, Tryd.ntmps26
      go_wp2_with (go_at_call 17; refine Calls.mono (HR.out _) ?_; (rintro e w1 ⟨rfl, hb1⟩; have HB1 := Lib.hid (HN.out.2.trans (hb1.mono HN.out.2.size)); have HX1 := Lib.hid (keep_blk hb1 HN.out.1); clear hb1 x0 x1; obtain ⟨x0, x1⟩ := cells2 HX1.out))
      have hz1 := HB1.out.size
      have hk1 := lt_of_blk HX1.out
      go_region_held3 (fun w' => w'.cell? ⟨w.heap.size, 0, none⟩ = some (.int .i64 x) ∧ w'.cell? ⟨w.heap.size, 1, none⟩ = some (.int .i64 y) ∧ Below w1.heap.size w1 w')
        (((refine ⟨?_, ?_, ?_⟩ <;> (first | ((repeat (first | exact Below.refl _ _ | (refine Below.drew ?_) | (refine Go.below_drewN ?_ _) | (refine Below.alloc ?_ (by first | (simp; done) | omega | (simp; omega)) _) | (refine Below.setCell ?_ (by first | (simp; done) | omega | (simp; omega)) _) | (refine Below.trans ?_ (Below.mono (by assumption) (by first | (simp; done) | omega | (simp; omega)))))); done) | (simp [go_sem]; done) | (rw [hb2.cell (by first | (simp; done) | omega | (simp; omega))]; (first | (simp only [*]; done) | (simp [go_sem]; done) | (simp [*, go_sem]; done))) | (rw [hb3.cell (by first | (simp; done) | omega | (simp; omega))]; (first | (simp only [*]; done) | (simp [go_sem]; done) | (simp [*, go_sem]; done))) | (simp [*, go_sem]; done)))))
        (first
          | ((fail_if_success (have := hb2)); go_at_call 37; refine Calls.mono (digits_is _ _ (by assumption) (by assumption)) ?_; rintro e w2 ⟨rfl, hb2⟩; have hz2 : w1.heap.size ≤ w2.heap.size := (by have := hb2.size; (try simp at this); omega))
          | (go_at_call 37; refine Calls.mono (digits_is _ _ (by assumption) (by assumption)) ?_; rintro e w3 ⟨rfl, hb3⟩; have hz3 : w1.heap.size ≤ w3.heap.size := (by have := hb3.size; (try simp at this); omega)))
      all_goals
        have hbw : Below w1.heap.size w1 w3 := (by ((repeat (first | exact Below.refl _ _ | (refine Below.drew ?_) | (refine Go.below_drewN ?_ _) | (refine Below.alloc ?_ (by first | (simp; done) | omega | (simp; omega)) _) | (refine Below.setCell ?_ (by first | (simp; done) | omega | (simp; omega)) _) | (refine Below.trans ?_ (Below.mono (by assumption) (by first | (simp; done) | omega | (simp; omega)))))); done))
        go_wp2_with fail
        go_ret
        exact ⟨by rw [← HE.out]; rfl, HB1.out.trans (hbw.mono hz1)⟩
    · have HE := Lib.hid (show decB x ++ (⟨#[43]⟩ : ByteArray) ++ decB y ++ (⟨#[105]⟩ : ByteArray) = printS x y by
        unfold printS; rw [h, if_pos rfl, printL_app, if_neg hy]
        unfold decB
        rw [show max y (-y) = y by omega]
        apply ByteArray.ext
        simp)
      obtain ⟨hx0, hx1⟩ := h0
      obtain ⟨hy0, hy1⟩ := h1
      have n0 : ¬ 9223372036854775807 < (decB x).size + 1 := by omega
      have n1 : ¬ 9223372036854775807 < (decB x).size + 1 + (decB y).size := by omega
      have n2 : ¬ 9223372036854775807 < (decB x).size + 1 + (decB y).size + 1 := by omega
      clear HDX HDY
      have hyb : decide (y < 0) = false := by simpa using hy
      go_enter Tryd.func26, Tryd.ntmps26
      go_wp2_with (go_at_call 17; refine Calls.mono (HR.out _) ?_; (rintro e w1 ⟨rfl, hb1⟩; have HB1 := Lib.hid (HN.out.2.trans (hb1.mono HN.out.2.size)); have HX1 := Lib.hid (keep_blk hb1 HN.out.1); clear hb1 x0 x1; obtain ⟨x0, x1⟩ := cells2 HX1.out))
      have hz1 := HB1.out.size
      have hk1 := lt_of_blk HX1.out
      go_region_held3 (fun w' => w'.cell? ⟨w.heap.size, 0, none⟩ = some (.int .i64 x) ∧ w'.cell? ⟨w.heap.size, 1, none⟩ = some (.int .i64 y) ∧ Below w1.heap.size w1 w')
        (((refine ⟨?_, ?_, ?_⟩ <;> (first | ((repeat (first | exact Below.refl _ _ | (refine Below.drew ?_) | (refine Go.below_drewN ?_ _) | (refine Below.alloc ?_ (by first | (simp; done) | omega | (simp; omega)) _) | (refine Below.setCell ?_ (by first | (simp; done) | omega | (simp; omega)) _) | (refine Below.trans ?_ (Below.mono (by assumption) (by first | (simp; done) | omega | (simp; omega)))))); done) | (simp [go_sem]; done) | (rw [hb2.cell (by first | (simp; done) | omega | (simp; omega))]; (first | (simp only [*]; done) | (simp [go_sem]; done) | (simp [*, go_sem]; done))) | (rw [hb3.cell (by first | (simp; done) | omega | (simp; omega))]; (first | (simp only [*]; done) | (simp [go_sem]; done) | (simp [*, go_sem]; done))) | (simp [*, go_sem]; done)))))
        (first
          | ((fail_if_success (have := hb2)); go_at_call 37; refine Calls.mono (digits_is _ _ (by assumption) (by assumption)) ?_; rintro e w2 ⟨rfl, hb2⟩; have hz2 : w1.heap.size ≤ w2.heap.size := (by have := hb2.size; (try simp at this); omega))
          | (go_at_call 37; refine Calls.mono (digits_is _ _ (by assumption) (by assumption)) ?_; rintro e w3 ⟨rfl, hb3⟩; have hz3 : w1.heap.size ≤ w3.heap.size := (by have := hb3.size; (try simp at this); omega)))
      all_goals
        have hbw : Below w1.heap.size w1 w3 := (by ((repeat (first | exact Below.refl _ _ | (refine Below.drew ?_) | (refine Go.below_drewN ?_ _) | (refine Below.alloc ?_ (by first | (simp; done) | omega | (simp; omega)) _) | (refine Below.setCell ?_ (by first | (simp; done) | omega | (simp; omega)) _) | (refine Below.trans ?_ (Below.mono (by assumption) (by first | (simp; done) | omega | (simp; omega)))))); done))
        go_wp2_with fail
        go_ret
        exact ⟨by rw [← HE.out]; rfl, HB1.out.trans (hbw.mono hz1)⟩
end Go.Proofs.YthncmfchphigdaaDoor.T
