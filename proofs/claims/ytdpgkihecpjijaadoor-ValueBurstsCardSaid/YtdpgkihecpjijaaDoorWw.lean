import Derived.Deep.DeepCutAuto
import Derived.Laws.OwnMore
import Derived.OwnWalk
import Derived.Lib.AppendStr
import Derived.Laws.IdiomStrings
import Derived.Lib.ConvBytes
import Derived.Lib.SmallJoins
import Derived.IntWalk
import Derived.Deep.AppendLies
import Derived.Deep.RegionLaw
import Derived.Test.YtdpgkihecpjijaaDoorProg
import Derived.Test.YtdpgkihecpjijaaDoorMem
import Derived.Test.YtdpgkihecpjijaaDoorVw
import Derived.Test.YtdpgkihecpjijaaDoorVx
import Derived.Test.YtdpgkihecpjijaaDoorWf
import Derived.WalkKit
import Derived.Outline
import Derived.WalkLawsBesides
import Derived.Deep.QuietTactic
import Derived.BigQuiet
import Derived.Lib.Hide
import Derived.Handy
import Derived.Deep.RegionHeld3
import Derived.Deep.DrawnRows
import Derived.KernelRfl
import Derived.Great.Walk
import Derived.Test.YtdpgkihecpjijaaDoorOwn
namespace Go.Proofs.YtdpgkihecpjijaaDoor.T
open Go Go.RowKit Mem Own
set_option maxRecDepth 100000
set_option maxHeartbeats 1000000
set_option linter.unusedVariables false
set_option linter.unusedSimpArgs false

/-- A byte of a text. -/
def byteAt (s : ByteArray) (i : Nat) : Nat := (s.data.toList.getD i 0).toNat
theorem byteAt_eq {s : ByteArray} {i : Nat} (h : i < s.size) : byteAt s i = (s[i]).toNat := by
  have h2 : i < s.data.toList.length := by simpa using h
  unfold byteAt
  rw [List.getD_eq_getElem?_getD, List.getElem?_eq_getElem h2]
  rfl
/-- The number of two bytes at a place. -/
def atF (s : ByteArray) (i : Nat) : Int := if s.size < i + 2 then -1 else (byteAt s i * 256 + byteAt s (i + 1) : Nat)
theorem byteAt_lt (s : ByteArray) (i : Nat) : byteAt s i < 256 := (s.data.toList.getD i 0).toNat_lt
theorem atF_le (s : ByteArray) (i : Nat) : -1 ≤ atF s i ∧ atF s i < 65536 := by
  unfold atF
  have h1 := byteAt_lt s i
  have h2 := byteAt_lt s (i + 1)
  split <;> omega
theorem at_is (s : ByteArray) (i : Nat) (w : World) (hs : s.size ≤ maxLen) (hi : i ≤ 2 ^ 50) : Calls Tryd.prog 59 #[.string s, .int .i64 (i : Int)] w fun e w' => e = .returned (.int .i64 (atF s i)) ∧ Below w.heap.size w w' := by
  unfold maxLen at hs
  by_cases h : s.size < i + 2
  · have HA := Lib.hid (show atF s i = -1 by unfold atF; rw [if_pos h])
    go_enter Tryd.func59, Tryd.ntmps59
    go_wp2
    go_ret
    exact ⟨congrArg (fun z => Ending.returned (.int .i64 z)) HA.out.symm, (by ((repeat (first | exact Below.refl _ _ | (refine Below.drew ?_) | (refine Go.below_drewN ?_ _) | (refine Below.alloc ?_ (by first | (simp; done) | omega | (simp; omega)) _) | (refine Below.setCell ?_ (by first | (simp; done) | omega | (simp; omega)) _) | (refine Below.trans ?_ (Below.mono (by assumption) (by first | (simp; done) | omega | (simp; omega)))))); done))⟩
  · have h1 : i < s.size := by omega
    have h2 : i + 1 < s.size := by omega
    have HA := Lib.hid (show atF s i = ((s[i]).toNat : Int) * 256 + ((s[i + 1]).toNat : Int) by unfold atF; rw [if_neg h, byteAt_eq h1, byteAt_eq h2]; omega)
    have hw : IntKind.i64.wrap ((i : Int) + 1) = ((i + 1 : Nat) : Int) := by rw [IntKind.wrap_i64]; omega
    have hc1 : 0 ≤ (i : Int) + 1 ∧ (i : Int) + 1 < (s.size : Int) := by omega
    have b1 := (s[i]).toNat_lt
    have b2 := (s[i + 1]).toNat_lt
    go_enter Tryd.func59, Tryd.ntmps59
    go_wp2
    go_region
    go_wp2
    go_ret
    exact ⟨congrArg (fun z => Ending.returned (.int .i64 z)) HA.out.symm, (by ((repeat (first | exact Below.refl _ _ | (refine Below.drew ?_) | (refine Go.below_drewN ?_ _) | (refine Below.alloc ?_ (by first | (simp; done) | omega | (simp; omega)) _) | (refine Below.setCell ?_ (by first | (simp; done) | omega | (simp; omega)) _) | (refine Below.trans ?_ (Below.mono (by assumption) (by first | (simp; done) | omega | (simp; omega)))))); done))⟩
/-- The number of four bytes. -/
def sgF (s : ByteArray) (i : Nat) : Int := if atF s i * 65536 + atF s (i + 2) ≥ 2147483648 then atF s i * 65536 + atF s (i + 2) - 4294967296 else atF s i * 65536 + atF s (i + 2)
theorem signed_is (s : ByteArray) (i : Nat) (w : World) (hs : s.size ≤ maxLen) (hi : i ≤ 2 ^ 40) : Calls Tryd.prog 61 #[.string s, .int .i64 (i : Int)] w fun e w' => e = .returned (.int .i64 (sgF s i)) ∧ Below w.heap.size w w' := by
  obtain ⟨x, hx⟩ : ∃ x, x = atF s i := ⟨_, rfl⟩
  obtain ⟨y, hy⟩ : ∃ y, y = atF s (i + 2) := ⟨_, rfl⟩
  have x1 := atF_le s i; have y1 := atF_le s (i + 2)
  rw [← hx] at x1; rw [← hy] at y1
  have HX := Lib.hid hx; have HY := Lib.hid hy; have HS := Lib.hid hs
  have hcast : (i : Int) + 2 = ((i + 2 : Nat) : Int) := by omega
  have HC := Lib.hid hcast
  have HG := Lib.hid (show sgF s i = if x * 65536 + y ≥ 2147483648 then x * 65536 + y - 4294967296 else x * 65536 + y by unfold sgF; rw [hx, hy])
  rw [HG.out]
  clear hx hy hs hcast
  by_cases hb : x * 65536 + y ≥ 2147483648
  · rw [if_pos hb]
    go_enter Tryd.func61, Tryd.ntmps61
    go_wp2_with (first
      | ((fail_if_success (have := hb1)); go_at_call 59; refine Calls.mono (at_is s i _ HS.out (by omega)) ?_; rintro e w1 ⟨rfl, hb1⟩; rw [← HX.out]; have hz1 := hb1.size)
      | (go_at_call 59; rw [HC.out]; refine Calls.mono (at_is s (i + 2) _ HS.out (by omega)) ?_; rintro e w2 ⟨rfl, hb2⟩; rw [← HY.out]))
    go_ret
    exact ⟨rfl, (by ((repeat (first | exact Below.refl _ _ | (refine Below.drew ?_) | (refine Go.below_drewN ?_ _) | (refine Below.alloc ?_ (by first | (simp; done) | omega | (simp; omega)) _) | (refine Below.setCell ?_ (by first | (simp; done) | omega | (simp; omega)) _) | (refine Below.trans ?_ (Below.mono (by assumption) (by first | (simp; done) | omega | (simp; omega)))))); done))⟩
  · rw [if_neg hb]
    have hb' : x * 65536 + y < 2147483648 := by omega
    go_enter Tryd.func61, Tryd.ntmps61
    go_wp2_with (first
      | ((fail_if_success (have := hb1)); go_at_call 59; refine Calls.mono (at_is s i _ HS.out (by omega)) ?_; rintro e w1 ⟨rfl, hb1⟩; rw [← HX.out]; have hz1 := hb1.size)
      | (go_at_call 59; rw [HC.out]; refine Calls.mono (at_is s (i + 2) _ HS.out (by omega)) ?_; rintro e w2 ⟨rfl, hb2⟩; rw [← HY.out]))
    go_ret
    exact ⟨rfl, (by ((repeat (first | exact Below.refl _ _ | (refine Below.drew ?_) | (refine Go.below_drewN ?_ _) | (refine Below.alloc ?_ (by first | (simp; done) | omega | (simp; omega)) _) | (refine Below.setCell ?_ (by first | (simp; done) | omega | (simp; omega)) _) | (refine Below.trans ?_ (Below.mono (by assumption) (by first | (simp; done) | omega | (simp; omega)))))); done))⟩
theorem own_bel {w w1 : World} {T : TypeId} {sz Bk n : Nat} {v : Value} {xs : List Value} (h : w.ownsRow Bk T sz v n xs) (hb : Below w.heap.size w w1) : w1.ownsRow Bk T sz v n xs := by
  refine ⟨h.1, ?_⟩
  rcases h.2 with e | ⟨g, cap, cur, e, h1, h2, h3⟩
  · exact .inl e
  · exact .inr ⟨g, cap, cur, e, h1, by rw [hb.block g (Array.getElem?_eq_some_iff.1 h2).1]; exact h2, h3⟩
/-- So many texts from a place on, and the place behind them. -/
def txF (s : ByteArray) : Nat → Nat → Option (List ByteArray × Nat)
  | i, 0 => some ([], i)
  | i, m + 1 => if atF s i < 0 ∨ (s.size : Int) < (i : Int) + 2 + atF s i then none else (txF s (i + 2 + (atF s i).toNat) m).map fun p => (s.extract (i + 2) (i + 2 + (atF s i).toNat) :: p.1, p.2)
def txL (r : Option (List ByteArray × Nat)) : List ByteArray := match r with | none => [] | some p => p.1
def txE (r : Option (List ByteArray × Nat)) : Int := match r with | none => -1 | some p => p.2
def TxOut (r : Option (List ByteArray × Nat)) (w : World) (e : Ending) (w' : World) : Prop := ∃ A c, e = .returned (.tuple #[.slice A (txL r).length c, .int .i64 (txE r)]) ∧ RowKit.Hid (Rd w' A (txL r)) ∧ RowKit.Hid (∀ b off, A = some ⟨b, off, none⟩ → w.heap.size ≤ b) ∧ Below w.heap.size w w'
theorem tx_none {r : Option (List ByteArray × Nat)} {w w' : World} (h : r = none) (hb : Below w.heap.size w w') : TxOut r w (.returned (.tuple #[.slice none 0 0, .int .i64 (-1)])) w' := by
  subst h; exact ⟨none, 0, rfl, Lib.hid (.inl rfl), Lib.hid (fun _ _ h => by cases h), hb⟩
theorem tx_some {r : Option (List ByteArray × Nat)} {w w' : World} {o : List ByteArray} {j n : Nat} {v : Value} (h : r = some (o, j)) (ho : w'.ownsRow w.heap.size 9 1 v n (vs o)) (hb : Below w.heap.size w w') : TxOut r w (.returned (.tuple #[v, .int .i64 (j : Int)])) w' := by
  subst h
  obtain rfl := own_len ho
  obtain ⟨A, c, rfl⟩ := own_slice ho
  exact ⟨A, c, rfl, Lib.hid (own_rd ho).1, Lib.hid (fun b off h => (ho.lt b (by rw [h]; rfl)).1), hb⟩
theorem txF_len {s : ByteArray} : ∀ {m i : Nat} {p}, txF s i m = some p → p.1.length = m ∧ i ≤ p.2
  | 0, i, p, h => by simp [txF] at h; subst h; simp
  | m + 1, i, p, h => by
    unfold txF at h
    split at h
    · cases h
    · simp only [Option.map_eq_some_iff] at h
      obtain ⟨q, hq, rfl⟩ := h
      have := txF_len hq
      simp; omega
theorem txF_size {s : ByteArray} : ∀ {m i : Nat} {p}, txF s i m = some p → ∀ x ∈ p.1, x.size ≤ s.size
  | 0, i, p, h => by simp [txF] at h; subst h; simp
  | m + 1, i, p, h => by
    unfold txF at h
    split at h
    · cases h
    · simp only [Option.map_eq_some_iff] at h
      obtain ⟨q, hq, rfl⟩ := h
      intro x hx
      rcases List.mem_cons.1 hx with rfl | hx
      · rw [ByteArray.size_extract]; omega
      · exact txF_size hq x hx
theorem txF_step {s : ByteArray} {j m n : Nat} (h : (n : Int) = atF s j) (hle : j + 2 + n ≤ s.size) : txF s j (m + 1) = (txF s (j + 2 + n) m).map fun p => (s.extract (j + 2) (j + 2 + n) :: p.1, p.2) := by
  conv => lhs; unfold txF
  rw [← h, if_neg (by omega)]
  simp
theorem txF_stop {s : ByteArray} {j m : Nat} (h : atF s j < 0 ∨ (s.size : Int) < (j : Int) + 2 + atF s j) : txF s j (m + 1) = none := by
  unfold txF; rw [if_pos h]
/-- ref10.texts -/
theorem texts_is (s : ByteArray) (i m : Nat) (w : World) (hs : s.size ≤ maxLen) (hi : i ≤ 3) (hm : m ≤ 512) : Calls Tryd.prog 60 #[.string s, .int .i64 (i : Int), .int .i64 (m : Int)] w (TxOut (txF s i m) w) := by
  obtain ⟨i0, hi, hz0, hz1, hz2⟩ := info_parts info9
  generalize hr : txF s i m = r
  have HR := Lib.hid hr
  have HS := Lib.hid hs
  unfold maxLen at hs
  clear hr
  go_enter Tryd.func60, Tryd.ntmps60
  go_wp2_with fail
  go_loopw [1, 8, 9] (fun x1 x8 x9 wr => ∃ (v0 : Value) (j k : Nat) (o : List ByteArray), v0 = x8 ∧ x1 = .int .i64 j ∧ x9 = .int .i64 k ∧ k ≤ m ∧ j ≤ 3 + k * 65540 ∧ RowKit.Hid (r = (txF s j (m - k)).map fun p => (o ++ p.1, p.2)) ∧ RowKit.Hid (wr.ownsRow w.heap.size 9 1 v0 k (vs o)) ∧ RowKit.Hid (Below w.heap.size w wr)) (fun _ _ x9 _ => m - (intOf x9).toNat)
  case atStart => exact ⟨_, i, 0, [], rfl, rfl, rfl, Nat.zero_le _, by omega, Lib.hid (by rw [Nat.sub_zero, HR.out]; cases r <;> simp), Lib.hid (World.ownsRow_nil _ _ _ _), Lib.hid (Below.refl _ _)⟩
  case round =>
    obtain ⟨v0, j, k, o, rfl, rfl, rfl, hk, hj, HRR, HO0, HB0⟩ := hrel
    have hzr := HB0.out.size
    by_cases hlt : k < m
    · obtain ⟨z, hz⟩ : ∃ z, z = atF s j := ⟨_, rfl⟩
      have hzl := atF_le s j
      rw [← hz] at hzl
      have HZ := Lib.hid hz
      have HM := Lib.hid (show m - k = (m - (k + 1)) + 1 by omega)
      clear hz
      by_cases hneg : z < 0
      · have HE := Lib.hid (show r = none by rw [HRR.out, HM.out, txF_stop (.inl (by rw [← HZ.out]; exact hneg))]; rfl)
        go_wp2_with (go_at_call 59; refine Calls.mono (at_is s j _ HS.out (by omega)) ?_; rintro e w1 ⟨rfl, hb1⟩; rw [← HZ.out])
        go_ret2
        exact tx_none HE.out (HB0.out.trans (hb1.mono hzr))
      · obtain ⟨n, rfl⟩ : ∃ n : Nat, z = n := ⟨z.toNat, by omega⟩
        by_cases hbig : s.size < j + 2 + n
        · have HE := Lib.hid (show r = none by rw [HRR.out, HM.out, txF_stop (.inr (by rw [← HZ.out]; omega))]; rfl)
          go_wp2_with (go_at_call 59; refine Calls.mono (at_is s j _ HS.out (by omega)) ?_; rintro e w1 ⟨rfl, hb1⟩; rw [← HZ.out])
          go_ret2
          exact tx_none HE.out (HB0.out.trans (hb1.mono hzr))
        · have HRN := Lib.hid (show r = (txF s (j + 2 + n) (m - (k + 1))).map fun p => ((o ++ [s.extract (j + 2) (j + 2 + n)]) ++ p.1, p.2) by
            rw [HRR.out, HM.out, txF_step HZ.out (by omega), Option.map_map]
            congr 1
            funext p
            simp)
          have hcc : 0 ≤ (j : Int) + 2 ∧ (j : Int) + 2 ≤ (j : Int) + 2 + (n : Int) ∧ (j : Int) + 2 + (n : Int) ≤ (s.size : Int) := by omega
          obtain ⟨hc1, hc2, hc3⟩ := id hcc
          have ht1 : ((j : Int) + 2).toNat = j + 2 := by omega
          have ht2 : ((j : Int) + 2 + (n : Int)).toNat = j + 2 + n := by omega
          go_wp2_with (first
            | (go_at_call 59; refine Calls.mono (at_is s j _ HS.out (by omega)) ?_; rintro e w1 ⟨rfl, hb1⟩; rw [← HZ.out]; have HO1 := Lib.hid (own_bel HO0.out hb1); have HB1 := Lib.hid (HB0.out.trans (hb1.mono hzr)); clear hb1)
            | ((at_builtin; refine wpList_append_own _ rfl (.tmp 30) (.tmp 39) 23 rfl w.heap.size 9 i0 _ 1 16 Tryd.underlying23 hi hz0 hz1 hz2 rfl (by decide) v0 (k) (vs (o)) rfl (HO1.out.alloc _) ⟨w1.heap.size, 0, none⟩ 1 1 [.string (s.extract (j + 2) (j + 2 + n))] rfl rfl (by intro j u hj; cases j with | zero => (simp at hj; subst hj; simp [Addr.add]) | succ => simp at hj) (by intro u hu; simp at hu; subst hu; rfl) (by (try simp only [List.length_append, List.length_cons, List.length_nil]); unfold maxLen; omega) (by (try simp only [List.length_append, List.length_cons, List.length_nil]); omega) (by have := (HB1.out).size; rw [alloc_size]; omega) ?_; intro v2 w2 hown hg _; have HO2 := Lib.hid (push_row hown); have HB2 := Lib.hid (push_below HB1.out HO1.out hg); clear hown hg)))
          exact ⟨⟨_, j + 2 + n, k + 1, _, rfl, by go_num, by go_num, by omega, by omega, HRN, HO2, HB2⟩, by simp [intOf]; omega⟩
    · obtain rfl : k = m := by omega
      have HE := Lib.hid (show r = some (o, j) by rw [HRR.out, Nat.sub_self]; simp [txF])
      go_wp2
      go_ret2
      exact tx_some HE.out HO0.out HB0.out
end Go.Proofs.YtdpgkihecpjijaaDoor.T
