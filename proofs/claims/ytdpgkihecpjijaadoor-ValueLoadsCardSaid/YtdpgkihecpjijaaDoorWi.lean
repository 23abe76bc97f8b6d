import Derived.Deep.DeepCutAuto
import Derived.Laws.OwnMore
import Derived.OwnWalk
import Derived.Lib.AppendStr
import Derived.Laws.IdiomStrings
import Derived.Lib.ConvBytes
import Derived.Lib.SmallJoins
import Derived.IntWalk
import Derived.Deep.AppendLies
import Derived.Deep.RegionLaw
import Derived.Test.YtdpgkihecpjijaaDoorProg
import Derived.Test.YtdpgkihecpjijaaDoorMem
import Derived.Test.YtdpgkihecpjijaaDoorVw
import Derived.Test.YtdpgkihecpjijaaDoorVx
import Derived.Test.YtdpgkihecpjijaaDoorWc
import Derived.Test.YtdpgkihecpjijaaDoorWf
import Derived.WalkKit
import Derived.Outline
import Derived.WalkLawsBesides
import Derived.Deep.QuietTactic
import Derived.BigQuiet
import Derived.Lib.Hide
import Derived.Handy
import Derived.Deep.RegionHeld3
import Derived.Deep.DrawnRows
import Derived.KernelRfl
import Derived.Sort.Walk0
import Derived.Great.Walk
import Derived.Test.YtdpgkihecpjijaaDoorOwn
namespace Go.Proofs.YtdpgkihecpjijaaDoor.T
open Go Go.RowKit Mem Own
set_option maxRecDepth 100000
set_option maxHeartbeats 1000000
set_option linter.unusedVariables false
set_option linter.unusedSimpArgs false

def TextsOut (l : List ByteArray) (w : World) (e : Ending) (w' : World) : Prop := ∃ A c, e = .returned (.slice A l.length c) ∧ RowKit.Hid (Rd w' A l) ∧ Below w.heap.size w w'
theorem texts_out {B n : Nat} {v : Value} {l : List ByteArray} {w w' : World} (h : w'.ownsRow B 9 1 v n (vs l)) (hb : Below w.heap.size w w') : TextsOut l w (.returned v) w' := by
  obtain rfl := own_len h
  obtain ⟨A, c, rfl⟩ := own_slice h
  exact ⟨A, c, rfl, Lib.hid (own_rd h).1, hb⟩
/-- ref10.names -/
theorem rnames_is (A : Option Addr) (l : List (ByteArray × ByteArray)) (c : Nat) (w : World) (ha : RdP w A l) (hn : l.length ≤ 2 ^ 40) :
    Calls Tryd.prog 43 #[.slice A l.length c] w (TextsOut (l.map Prod.fst) w) := by
  obtain ⟨i0, hi, hz0, hz1, hz2⟩ := info_parts info9
  have HA := Lib.hid ha
  obtain ⟨N, hN⟩ : ∃ N, l.length = N := ⟨_, rfl⟩
  rw [hN] at hn ⊢
  have HN := Lib.hid hN
  clear ha hN
  go_enter Tryd.func43, Tryd.ntmps43
  go_wp2_with fail
  go_loopw [3, 4] (fun v x wr => ∃ (v0 : Value) (n : Nat) (o : List ByteArray), v0 = v ∧ n ≤ N ∧ x = .int .i64 n ∧ RowKit.Hid (o = (l.take n).map Prod.fst) ∧ RowKit.Hid (wr.ownsRow w.heap.size 9 1 v n (vs o)) ∧ RowKit.Hid (Below w.heap.size w wr)) (fun _ x _ => N - (intOf x).toNat)
  case atStart => exact ⟨_, 0, [], rfl, Nat.zero_le _, rfl, Lib.hid (by simp), Lib.hid (World.ownsRow_nil _ _ _ _), Lib.hid (Below.refl _ _)⟩
  case round =>
    obtain ⟨v0, n, o, rfl, hnN, rfl, ho, HO0, HB0⟩ := hrel
    by_cases hlt : n < N
    · have hlta := Lib.hid (show n < l.length by rw [HN.out]; exact hlt)
      obtain ⟨q1, o1, rfl⟩ := HA.out.addr (Nat.zero_lt_of_lt hlta.out)
      obtain ⟨g1, g2⟩ := (HA.out.below HB0.out).cell hlta.out
      obtain ⟨x, hx⟩ : ∃ x, x = (l[n]'hlta.out).1 := ⟨_, rfl⟩
      rw [← hx] at g1
      have HX := Lib.hid hx
      clear hx
      go_wp2_with (first | ((at_builtin; refine wpList_append_own _ rfl (.tmp 11) (.tmp 17) 23 rfl w.heap.size 9 i0 _ 1 16 Tryd.underlying23 hi hz0 hz1 hz2 rfl (by decide) v0 (n) (vs (o)) rfl (HO0.out.alloc _) ⟨wr.heap.size, 0, none⟩ 1 1 [.string x] rfl rfl (by intro j u hj; cases j with | zero => (simp at hj; subst hj; simp [Addr.add]) | succ => simp at hj) (by intro u hu; simp at hu; subst hu; rfl) (by (try simp only [List.length_append, List.length_cons, List.length_nil]); unfold maxLen; omega) (by (try simp only [List.length_append, List.length_cons, List.length_nil]); omega) (by have := (HB0.out).size; rw [alloc_size]; omega) ?_; intro v1 w1 hown hg _; have HO1 := Lib.hid (push_row hown); have HB1 := Lib.hid (push_below HB0.out HO0.out hg); clear hown hg)))
      exact ⟨⟨_, n + 1, o ++ [x], rfl, by omega, by go_num, Lib.hid (by rw [List.take_succ_eq_append_getElem hlta.out, List.map_append, ← ho.out, HX.out]; rfl), HO1, HB1⟩, by simp [intOf]; omega⟩
    · obtain rfl : n = N := by omega
      have he : o = l.map Prod.fst := by rw [ho.out, ← HN.out, List.take_length]
      subst he
      go_wp2
      go_ret
      exact texts_out HO0.out HB0.out
/-- ref10.values -/
theorem rvalues_is (A : Option Addr) (l : List (ByteArray × ByteArray)) (c : Nat) (w : World) (ha : RdP w A l) (hn : l.length ≤ 2 ^ 40) :
    Calls Tryd.prog 46 #[.slice A l.length c] w (TextsOut (l.map Prod.snd) w) := by
  obtain ⟨i0, hi, hz0, hz1, hz2⟩ := info_parts info9
  have HA := Lib.hid ha
  obtain ⟨N, hN⟩ : ∃ N, l.length = N := ⟨_, rfl⟩
  rw [hN] at hn ⊢
  have HN := Lib.hid hN
  clear ha hN
  go_enter Tryd.func46, Tryd.ntmps46
  go_wp2_with fail
  go_loopw [3, 4] (fun v x wr => ∃ (v0 : Value) (n : Nat) (o : List ByteArray), v0 = v ∧ n ≤ N ∧ x = .int .i64 n ∧ RowKit.Hid (o = (l.take n).map Prod.snd) ∧ RowKit.Hid (wr.ownsRow w.heap.size 9 1 v n (vs o)) ∧ RowKit.Hid (Below w.heap.size w wr)) (fun _ x _ => N - (intOf x).toNat)
  case atStart => exact ⟨_, 0, [], rfl, Nat.zero_le _, rfl, Lib.hid (by simp), Lib.hid (World.ownsRow_nil _ _ _ _), Lib.hid (Below.refl _ _)⟩
  case round =>
    obtain ⟨v0, n, o, rfl, hnN, rfl, ho, HO0, HB0⟩ := hrel
    by_cases hlt : n < N
    · have hlta := Lib.hid (show n < l.length by rw [HN.out]; exact hlt)
      obtain ⟨q1, o1, rfl⟩ := HA.out.addr (Nat.zero_lt_of_lt hlta.out)
      obtain ⟨g1, g2⟩ := (HA.out.below HB0.out).cell hlta.out
      obtain ⟨x, hx⟩ : ∃ x, x = (l[n]'hlta.out).2 := ⟨_, rfl⟩
      rw [← hx] at g2
      have HX := Lib.hid hx
      clear hx
      go_wp2_with (first | ((at_builtin; refine wpList_append_own _ rfl (.tmp 11) (.tmp 17) 23 rfl w.heap.size 9 i0 _ 1 16 Tryd.underlying23 hi hz0 hz1 hz2 rfl (by decide) v0 (n) (vs (o)) rfl (HO0.out.alloc _) ⟨wr.heap.size, 0, none⟩ 1 1 [.string x] rfl rfl (by intro j u hj; cases j with | zero => (simp at hj; subst hj; simp [Addr.add]) | succ => simp at hj) (by intro u hu; simp at hu; subst hu; rfl) (by (try simp only [List.length_append, List.length_cons, List.length_nil]); unfold maxLen; omega) (by (try simp only [List.length_append, List.length_cons, List.length_nil]); omega) (by have := (HB0.out).size; rw [alloc_size]; omega) ?_; intro v1 w1 hown hg _; have HO1 := Lib.hid (push_row hown); have HB1 := Lib.hid (push_below HB0.out HO0.out hg); clear hown hg)))
      exact ⟨⟨_, n + 1, o ++ [x], rfl, by omega, by go_num, Lib.hid (by rw [List.take_succ_eq_append_getElem hlta.out, List.map_append, ← ho.out, HX.out]; rfl), HO1, HB1⟩, by simp [intOf]; omega⟩
    · obtain rfl : n = N := by omega
      have he : o = l.map Prod.snd := by rw [ho.out, ← HN.out, List.take_length]
      subst he
      go_wp2
      go_ret
      exact texts_out HO0.out HB0.out
end Go.Proofs.YtdpgkihecpjijaaDoor.T
