import Derived.Test.YtdpgkihecpjijaaDoorProg
import Derived.Test.YtdpgkihecpjijaaDoorMem
import Derived.Test.YtdpgkihecpjijaaDoorVa
import Derived.Test.YtdpgkihecpjijaaDoorVb
import Derived.Test.YtdpgkihecpjijaaDoorVc
import Derived.Test.YtdpgkihecpjijaaDoorVd
import Derived.WalkKit
import Derived.Outline
import Derived.WalkLawsBesides
import Derived.Deep.QuietTactic
import Derived.BigQuiet
import Derived.Lib.Hide
import Derived.Handy
import Derived.Deep.RegionHeld3
import Derived.Deep.DrawnRows
import Derived.KernelRfl
import Derived.Sort.Walk0
import Derived.Great.Walk
import Derived.Test.YtdpgkihecpjijaaDoorOwn
namespace Go.Proofs.YtdpgkihecpjijaaDoor.T
open Go Go.RowKit Mem Own
set_option maxRecDepth 100000
set_option maxHeartbeats 1000000
set_option linter.unusedVariables false
set_option linter.unusedSimpArgs false

/-- A set: its texts rise. -/
def Srt (l : List ByteArray) : Prop := l.Pairwise fun x y => x.toList < y.toList
theorem lt_trans' {a b c : List UInt8} (h : a < b) (h' : b < c) : a < c := List.lt_trans h h'
theorem srt_of {l : List ByteArray} (h : ∀ j (h1 : j < l.length) (h2 : j + 1 < l.length), (l[j]'h1).toList < (l[j + 1]'h2).toList) : Srt l := by
  induction l with
  | nil => exact List.Pairwise.nil
  | cons x l ih =>
    have hs : Srt l := ih fun j h1 h2 => by have := h (j + 1) (by simp; omega) (by simp; omega); simpa using this
    refine List.Pairwise.cons (fun y hy => ?_) hs
    cases l with
    | nil => cases hy
    | cons z l =>
      have hxz : x.toList < z.toList := by have := h 0 (by simp) (by simp); simpa using this
      rcases List.mem_cons.1 hy with rfl | hy
      · exact hxz
      · exact lt_trans' hxz (List.rel_of_pairwise_cons hs hy)
theorem srt_at {l : List ByteArray} (hs : Srt l) (j : Nat) (h1 : j < l.length) (h2 : j + 1 < l.length) : (l[j]'h1).toList < (l[j + 1]'h2).toList :=
  (List.pairwise_iff_getElem.1 hs) j (j + 1) h1 h2 (by omega)

theorem sright_is (A : Option Addr) (l : List ByteArray) (c : Nat) (w : World) (ha : Rd w A l) (hn : l.length ≤ maxLen) :
    Calls Tryd.prog 39 #[.slice A l.length c] w fun e w' => ∃ r : Bool, e = .returned (.bool r) ∧ (r = true ↔ Srt l) ∧ Below w.heap.size w w' := by
  unfold maxLen at hn
  go_enter Tryd.func39, Tryd.ntmps39
  have HA := Lib.hid ha
  clear ha
  go_wp2_with fail
  go_loopw [3] (fun x wr => ∃ k : Nat, 1 ≤ k ∧ (k ≤ l.length ∨ k = 1) ∧ x = .int .i64 k ∧ Below w.heap.size w wr ∧ (∀ j (h1 : j < l.length) (h2 : j + 1 < l.length), j + 1 < k → (l[j]'h1).toList < (l[j + 1]'h2).toList)) (fun x _ => l.length - (intOf x).toNat)
  case atStart => exact ⟨1, Nat.le_refl _, .inr rfl, rfl, Below.refl _ _, fun j _ _ h => by omega⟩
  case round =>
    obtain ⟨k, hk1, hk, rfl, hbw, hsame⟩ := hrel
    by_cases hlt : k < l.length
    · obtain ⟨k, rfl⟩ : ∃ m, k = m + 1 := ⟨k - 1, by omega⟩
      obtain ⟨b1, o1, rfl⟩ := HA.out.addr (by omega)
      have g1 := cell_below hbw (HA.out.cell (k := k) (by omega))
      have g2 := cell_below hbw (HA.out.cell (k := k + 1) hlt)
      obtain ⟨x, hx⟩ : ∃ x, x = l[k]'(by omega) := ⟨_, rfl⟩
      obtain ⟨y, hy⟩ : ∃ y, y = l[k + 1] := ⟨_, rfl⟩
      rw [← hx] at g1
      rw [← hy] at g2
      have HX := Lib.hid hx; have HY := Lib.hid hy; have HBW := Lib.hid hbw; have HS := Lib.hid hsame
      clear hx hy hbw hsame
      go_wp2
      go_quiet (fail)
      go_wp2
      · have hne : ¬ x.toList < y.toList := fun e => by
          have h1 : (!Op.bytesLess x.toList y.toList) = true := by assumption
          rw [bytesLess_eq] at h1; simp [e] at h1
        go_ret
        refine ⟨false, rfl, ⟨fun h => (by cases h), fun h => absurd (srt_at h k (by omega) hlt) ?_⟩, drewN_below HBW.out _⟩
        rw [← HX.out, ← HY.out]; exact hne
      · have hlt' : x.toList < y.toList := by
          have h1 : (!Op.bytesLess x.toList y.toList) = false := by assumption
          rw [bytesLess_eq] at h1; simpa using h1
        refine ⟨⟨k + 2, by omega, by omega, by go_num, drewN_below HBW.out _, fun j h1 h2 hj => ?_⟩, by simp [intOf]; omega⟩
        rcases Nat.lt_succ_iff_lt_or_eq.1 hj with h | h
        · exact HS.out j h1 h2 h
        · obtain rfl : j = k := by omega
          rw [← HX.out, ← HY.out]; exact hlt'
    · have e : Srt l := srt_of fun j h1 h2 => hsame j h1 h2 (by omega)
      have HBW := Lib.hid hbw; have HE := Lib.hid e
      clear hsame hbw e
      go_wp2
      go_ret
      exact ⟨true, rfl, ⟨fun _ => HE.out, fun _ => rfl⟩, HBW.out⟩

theorem rsright_is (A : Option Addr) (l : List ByteArray) (c : Nat) (w : World) (ha : Rd w A l) (hn : l.length ≤ maxLen) :
    Calls Tryd.prog 45 #[.slice A l.length c] w fun e w' => ∃ r : Bool, e = .returned (.bool r) ∧ (r = true ↔ Srt l) ∧ Below w.heap.size w w' := by
  unfold maxLen at hn
  go_enter Tryd.func45, Tryd.ntmps45
  have HA := Lib.hid ha
  clear ha
  go_wp2_with fail
  go_loopw [3] (fun x wr => ∃ k : Nat, 1 ≤ k ∧ (k ≤ l.length ∨ k = 1) ∧ x = .int .i64 k ∧ Below w.heap.size w wr ∧ (∀ j (h1 : j < l.length) (h2 : j + 1 < l.length), j + 1 < k → (l[j]'h1).toList < (l[j + 1]'h2).toList)) (fun x _ => l.length - (intOf x).toNat)
  case atStart => exact ⟨1, Nat.le_refl _, .inr rfl, rfl, Below.refl _ _, fun j _ _ h => by omega⟩
  case round =>
    obtain ⟨k, hk1, hk, rfl, hbw, hsame⟩ := hrel
    by_cases hlt : k < l.length
    · obtain ⟨k, rfl⟩ : ∃ m, k = m + 1 := ⟨k - 1, by omega⟩
      obtain ⟨b1, o1, rfl⟩ := HA.out.addr (by omega)
      have g1 := cell_below hbw (HA.out.cell (k := k) (by omega))
      have g2 := cell_below hbw (HA.out.cell (k := k + 1) hlt)
      obtain ⟨x, hx⟩ : ∃ x, x = l[k]'(by omega) := ⟨_, rfl⟩
      obtain ⟨y, hy⟩ : ∃ y, y = l[k + 1] := ⟨_, rfl⟩
      rw [← hx] at g1
      rw [← hy] at g2
      have HX := Lib.hid hx; have HY := Lib.hid hy; have HBW := Lib.hid hbw; have HS := Lib.hid hsame
      clear hx hy hbw hsame
      go_wp2
      go_quiet (fail)
      go_wp2
      · have hne : ¬ x.toList < y.toList := fun e => by
          have h1 : (!Op.bytesLess x.toList y.toList) = true := by assumption
          rw [bytesLess_eq] at h1; simp [e] at h1
        go_ret
        refine ⟨false, rfl, ⟨fun h => (by cases h), fun h => absurd (srt_at h k (by omega) hlt) ?_⟩, drewN_below HBW.out _⟩
        rw [← HX.out, ← HY.out]; exact hne
      · have hlt' : x.toList < y.toList := by
          have h1 : (!Op.bytesLess x.toList y.toList) = false := by assumption
          rw [bytesLess_eq] at h1; simpa using h1
        refine ⟨⟨k + 2, by omega, by omega, by go_num, drewN_below HBW.out _, fun j h1 h2 hj => ?_⟩, by simp [intOf]; omega⟩
        rcases Nat.lt_succ_iff_lt_or_eq.1 hj with h | h
        · exact HS.out j h1 h2 h
        · obtain rfl : j = k := by omega
          rw [← HX.out, ← HY.out]; exact hlt'
    · have e : Srt l := srt_of fun j h1 h2 => hsame j h1 h2 (by omega)
      have HBW := Lib.hid hbw; have HE := Lib.hid e
      clear hsame hbw e
      go_wp2
      go_ret
      exact ⟨true, rfl, ⟨fun _ => HE.out, fun _ => rfl⟩, HBW.out⟩


/-- slices.IndexFunc, slices.ContainsFunc over the too long texts -/
theorem ixlong_is (A : Option Addr) (l : List ByteArray) (c : Nat) (w : World) (ha : Rd w A l) (hn : l.length ≤ maxLen) (hz : ∀ x ∈ l, x.size ≤ maxLen) :
    Calls Tryd.prog 62 #[.slice A l.length c, .func (.func 41) #[] #[]] w fun e w' => ∃ z : Int, e = .returned (.int .i64 z) ∧ (0 ≤ z ↔ ¬ ∀ x ∈ l, x.size ≤ 1024) ∧ w = w' := by
  unfold maxLen at hn
  go_enter Tryd.func62, Tryd.ntmps62
  have HA := Lib.hid ha; have HZ := Lib.hid hz
  clear ha hz
  go_wp2_with fail
  go_loop [8] (fun x => ∃ k : Nat, k ≤ l.length ∧ x = .int .i64 k ∧ RowKit.Hid (∀ x ∈ l.take k, x.size ≤ 1024)) (fun x => l.length - (intOf x).toNat)
  case atStart => exact ⟨0, Nat.zero_le _, rfl, Lib.hid fun x hx => by simp at hx⟩
  case round =>
    obtain ⟨k, hk, rfl, HS⟩ := hrel
    by_cases hlt : k < l.length
    · obtain ⟨b1, o1, rfl⟩ := HA.out.addr (by omega)
      have g1 := HA.out.cell hlt
      have hxs := HZ.out l[k] (List.getElem_mem _)
      obtain ⟨x, hx⟩ : ∃ x, x = l[k] := ⟨_, rfl⟩
      rw [← hx] at g1 hxs
      have HX := Lib.hid hx
      clear hx
      by_cases hsh : x.size ≤ 1024
      · have HD := Lib.hid (show (!decide (x.size ≤ 1024)) = false by simp [hsh])
        have HSH := Lib.hid hsh
        clear hsh
        go_wp2_with (go_at_call 41; refine (long_is x _ hxs).mono ?_; rintro e w1 ⟨rfl, rfl⟩; rw [HD.out])
        refine ⟨⟨k + 1, by omega, by go_num, Lib.hid fun y hy => ?_⟩, by simp [intOf]; omega⟩
        rw [List.take_succ_eq_append_getElem hlt] at hy
        rcases List.mem_append.1 hy with h | h
        · exact HS.out y h
        · rw [List.mem_singleton.1 h, ← HX.out]; exact HSH.out
      · have HD := Lib.hid (show (!decide (x.size ≤ 1024)) = true by simp; omega)
        have HSH := Lib.hid hsh
        clear hsh
        go_wp2_with (go_at_call 41; refine (long_is x _ hxs).mono ?_; rintro e w1 ⟨rfl, rfl⟩; rw [HD.out])
        go_ret
        exact ⟨k, rfl, ⟨fun _ h => HSH.out (by rw [HX.out]; exact h _ (List.getElem_mem _)), fun _ => by omega⟩, rfl⟩
    · have HS2 := Lib.hid (show ∀ x ∈ l, x.size ≤ 1024 by have := HS.out; rwa [List.take_of_length_le (by omega)] at this)
      go_wp2
      go_ret
      exact ⟨-1, rfl, ⟨fun h => by omega, fun h => absurd HS2.out (by simpa using h)⟩, rfl⟩
theorem inlong_is (A : Option Addr) (l : List ByteArray) (c : Nat) (w : World) (ha : Rd w A l) (hn : l.length ≤ maxLen) (hz : ∀ x ∈ l, x.size ≤ maxLen) :
    Calls Tryd.prog 40 #[.slice A l.length c, .func (.func 41) #[] #[]] w fun e w' => e = .returned (.bool (!decide (∀ x ∈ l, x.size ≤ 1024))) ∧ w = w' := by
  have HC := Lib.hid (ixlong_is A l c w ha hn hz)
  obtain ⟨r, hr⟩ : ∃ r, r = (!decide (∀ x ∈ l, x.size ≤ 1024)) := ⟨_, rfl⟩
  rw [← hr]
  have HR := Lib.hid hr
  clear ha hn hz hr
  go_enter Tryd.func40, Tryd.ntmps40
  go_wp2_with (go_at_call 62; refine HC.out.mono ?_; rintro e w1 ⟨z, rfl, hz, rfl⟩; have HZ := Lib.hid hz; clear hz)
  go_ret
  refine ⟨ret_bool ?_, rfl⟩
  rw [HR.out, Bool.eq_iff_iff]
  simp only [decide_eq_true_iff, Bool.not_eq_true', decide_eq_false_iff_not]
  exact HZ.out
end Go.Proofs.YtdpgkihecpjijaaDoor.T
