import Derived.Test.YtojnhgeffnjndaaProg
import Derived.Test.YtojnhgeffnjndaaSa
import Derived.Test.YtojnhgeffnjndaaS2
import Derived.WalkKit
import Derived.Outline
import Derived.WalkLawsBesides
import Derived.Deep.QuietTactic
import Derived.BigQuiet
import Derived.Lib.Hide
import Derived.Handy
import Derived.Deep.RegionHeld3
import Derived.Deep.DrawnRows
import Derived.Sort.Walk0
import Derived.Great.Walk
import Derived.OneCell
import Derived.OwnWalk
import Derived.Laws.OwnMore
namespace Go.Proofs.Ytojnhgeffnjndaa.T
open Go Go.RowKit Mem Go.Great
set_option maxRecDepth 100000
set_option maxHeartbeats 8000000
set_option linter.unusedVariables false
set_option linter.unusedSimpArgs false

def mem (b : List ByteArray) (x : ByteArray) : Bool := b.any (fun y => decide (y = x))
theorem mem_iff {b : List ByteArray} {x : ByteArray} : mem b x = true ↔ x ∈ b := by simp [mem]

/-- ref08.Some: those of a that are in b, or are not. -/
def som (b : List ByteArray) (inn : Bool) (l : List ByteArray) : List ByteArray := l.filter (fun x => mem b x == inn)

theorem own_below {w w1 : World} {B n : Nat} {v : Value} {xs : List Value} (h : w.ownsRow B 9 1 v n xs) (hb : Below w.heap.size w w1) : w1.ownsRow B 9 1 v n xs := by
  refine ⟨h.1, ?_⟩
  rcases h.2 with e | ⟨g, cap, cur, e, h1, h2, h3⟩
  · exact .inl e
  · exact .inr ⟨g, cap, cur, e, h1, by rw [hb.block g (Array.getElem?_eq_some_iff.1 h2).1]; exact h2, h3⟩

theorem some_is (A B : Option Addr) (l b : List ByteArray) (inn : Bool) (ca cb : Nat) (w : World) (ha : Rd w A l) (hb : Rd w B b) (hn : l.length < 2 ^ 30) (hm : b.length < 2 ^ 30) :
    Calls Try.prog 19 #[.slice A l.length ca, .slice B b.length cb, .bool inn] w fun e w' => ∃ C k, e = .returned (.slice C (som b inn l).length k) ∧ RowKit.Hid (Rd w' C (som b inn l)) ∧ Below w.heap.size w w' := by
  obtain ⟨i0, hi, hz0, hz1, hz2⟩ := info_parts info9
  go_enter Try.func19, Try.ntmps19
  have HA := Lib.hid ha; have HBb := Lib.hid hb
  clear ha hb
  go_wp2_with fail
  go_loopw [7, 8] (fun v i wr => ∃ (v0 : Value) (k n : Nat) (o : List ByteArray), v0 = v ∧ k ≤ l.length ∧ i = .int .i64 k ∧ n ≤ k ∧ RowKit.Hid (o.length = n) ∧ RowKit.Hid (wr.ownsRow w.heap.size 9 1 v0 n (vs o)) ∧ RowKit.Hid (Below w.heap.size w wr) ∧ RowKit.Hid (o = som b inn (l.take k))) (fun _ i _ => l.length - (intOf i).toNat)
  case atStart => exact ⟨_, 0, 0, [], rfl, Nat.zero_le _, rfl, Nat.le_refl _, Lib.hid rfl, Lib.hid (World.ownsRow_nil _ _ _ _), Lib.hid (Below.refl _ _), Lib.hid (by simp [som])⟩
  case round =>
    obtain ⟨v0, k, n, o, rfl, hk, rfl, hnk, hol, HO0, HB0, HS⟩ := hrel
    by_cases hlt : k < l.length
    · obtain ⟨b1, o1, rfl⟩ := HA.out.addr (by omega)
      have h0 := HA.out.cell hlt
      obtain ⟨x, hx⟩ : ∃ x, x = l[k] := ⟨_, rfl⟩
      rw [← hx] at h0
      have HX := Lib.hid hx
      have H0 := Lib.hid h0
      clear hx
      have hx0 := cell_below HB0.out h0
      clear h0
      have hstep : som b inn (l.take (k + 1)) = som b inn (l.take k) ++ (if (mem b x == inn) = true then [x] else []) := by
        rw [List.take_succ_eq_append_getElem hlt, ← HX.out]
        simp only [som, List.filter_append, List.filter_cons, List.filter_nil]
      have HSTEP := Lib.hid hstep
      clear hstep
      by_cases hin : (mem b x == inn) = true
      · have HIN := Lib.hid hin
        have hc : Calls Try.prog 24 #[.slice B b.length cb, .string x] wr fun e w' => e = .returned (.bool inn) ∧ Below wr.heap.size wr w' := (rhas_is B b cb x wr (HBb.out.below HB0.out) (by omega)).mono fun e w' ⟨r, he, hr, hb⟩ => ⟨by
          have : r = mem b x := Bool.eq_iff_iff.2 (hr.trans mem_iff.symm)
          rw [he, this, beq_iff_eq.1 hin], hb⟩
        have HC := Lib.hid hc
        clear hc hin
        have he : (inn == inn) = true := by simp
        go_wp2_with (first | (go_at_call 24; refine HC.out.mono ?_; rintro e w1 ⟨rfl, hb1⟩; have HB1 := Lib.hid (HB0.out.trans (hb1.mono HB0.out.size)); have hx1 := cell_below HB1.out H0.out; have HO1 := Lib.hid (own_below HO0.out hb1); clear hb1) | (at_builtin; refine wpList_append_own _ rfl (.tmp 23) (.tmp 28) 22 rfl w.heap.size 9 i0 _ 1 16 Try.underlying22 hi hz0 hz1 hz2 rfl (by decide) v0 n (vs o) rfl (HO1.out.alloc _) ⟨w1.heap.size, 0, none⟩ 1 1 [.string x] rfl rfl (by intro j u hj; cases j with | zero => (simp at hj; subst hj; simp [Addr.add]) | succ => simp at hj) (by intro u hu; simp at hu; subst hu; rfl) (by unfold maxLen; omega) (by omega) (by have := (HB1.out).size; rw [alloc_size]; omega) ?_; intro v2 w2 hown hg _; have HO2 := Lib.hid (push_row hown); have HB2 := Lib.hid (push_below HB1.out HO1.out hg);  clear hown hg))
        exact ⟨⟨_, k + 1, n + 1, o ++ [x], rfl, by omega, by go_num, by omega, Lib.hid (by simp [hol.out]), HO2, HB2, Lib.hid (by rw [HSTEP.out, if_pos HIN.out, HS.out])⟩, by simp [intOf]; omega⟩
      · have HIN := Lib.hid hin
        have hc : Calls Try.prog 24 #[.slice B b.length cb, .string x] wr fun e w' => e = .returned (.bool (!inn)) ∧ Below wr.heap.size wr w' := (rhas_is B b cb x wr (HBb.out.below HB0.out) (by omega)).mono fun e w' ⟨r, he, hr, hb⟩ => ⟨by
          have : r = mem b x := Bool.eq_iff_iff.2 (hr.trans mem_iff.symm)
          rw [he, this]
          cases hd : mem b x <;> cases inn <;> simp [hd] at hin ⊢, hb⟩
        have HC := Lib.hid hc
        clear hc hin
        have he : ((!inn) == inn) = false := by cases inn <;> rfl
        go_wp2_with (go_at_call 24; refine HC.out.mono ?_; rintro e w1 ⟨rfl, hb1⟩; have HB1 := Lib.hid (HB0.out.trans (hb1.mono HB0.out.size)); have HO1 := Lib.hid (own_below HO0.out hb1); clear hb1)
        exact ⟨⟨_, k + 1, n, o, rfl, by omega, by go_num, by omega, hol, HO1, HB1, Lib.hid (by rw [HSTEP.out, if_neg HIN.out, List.append_nil, HS.out])⟩, by simp [intOf]; omega⟩
    · have hkl : k = l.length := by omega
      have e : som b inn l = o := by rw [HS.out, hkl, List.take_length]
      have hon := hol.out
      subst hon
      have HE := Lib.hid e
      clear hkl e
      obtain ⟨C, kk, rfl⟩ := own_slice HO0.out
      go_wp2
      go_ret
      rw [HE.out]
      first | exact ⟨C, kk, rfl, Lib.hid (own_rd HO0.out).1, HB0.out⟩ | exact ⟨C, ⟨kk, rfl⟩, Lib.hid (own_rd HO0.out).1, HB0.out⟩
end Go.Proofs.Ytojnhgeffnjndaa.T
