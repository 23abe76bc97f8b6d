import Derived.Test.YtojnhgeffnjndaaProg
import Derived.Test.YtojnhgeffnjndaaShelf
import Derived.Test.YtojnhgeffnjndaaSa
import Derived.WalkKit
import Derived.Outline
import Derived.WalkLawsBesides
import Derived.Deep.QuietTactic
import Derived.BigQuiet
import Derived.Lib.Hide
import Derived.Handy
import Derived.Deep.RegionHeld3
import Derived.Deep.DrawnRows
import Derived.Sort.OwnSorted
namespace Go.Proofs.Ytojnhgeffnjndaa.T
open Go Go.RowKit Mem Go.Great Go.Sort Go.Lib
set_option maxRecDepth 100000
set_option maxHeartbeats 8000000
set_option linter.unusedVariables false
set_option linter.unusedSimpArgs false
set_option linter.unnecessarySimpa false

theorem rw1_true (s : ByteArray) : ∀ (l out : List ByteArray), rw1 s l true out = out ++ l.filter (fun x => !decide (x = s))
  | [], out => by rw [rw1]; simp
  | x :: l, out => by
    rw [rw1, if_neg (by simp), rw1_true s l]
    by_cases h : x = s <;> simp [h]

theorem srt_sub {l l' : List ByteArray} (h : l'.Sublist l) (hs : Srt l) : Srt l' := List.Pairwise.sublist h hs

theorem rw1_set (s : ByteArray) : ∀ (l out : List ByteArray), Srt l → Srt out → (∀ y ∈ out, y.toList < s.toList) → (∀ y ∈ out, ∀ z ∈ l, y.toList < z.toList) →
    Srt (rw1 s l false out) ∧ (∀ x, x ∈ rw1 s l false out ↔ x ∈ out ∨ x ∈ l ∨ x = s) ∧ (rw1 s l false out).length ≤ out.length + l.length + 1
  | [], out, hl, ho, h1, h2 => by
    rw [rw1]
    simp only [Bool.false_eq_true, if_false]
    exact ⟨srt_snoc ho h1, fun x => by simp, by simp⟩
  | x :: l, out, hl, ho, h1, h2 => by
    rw [rw1]
    by_cases hx : x.toList < s.toList
    · have hne : x ≠ s := fun e => by rw [e] at hx; exact lti _ hx
      rw [if_neg (by simp [hx]), if_neg hne]
      have ih := rw1_set s l (out ++ [x]) (srt_tail hl) (srt_snoc ho fun y hy => h2 y hy x (by simp)) (fun y hy => by
        rcases List.mem_append.1 hy with h | h
        · exact h1 y h
        · rw [List.mem_singleton.1 h]; exact hx) (fun y hy z hz => by
        rcases List.mem_append.1 hy with h | h
        · exact h2 y h z (by simp [hz])
        · rw [List.mem_singleton.1 h]; exact srt_head hl z hz)
      refine ⟨ih.1, fun y => (ih.2.1 y).trans (by simp; grind), ?_⟩
      have := ih.2.2
      simp at this ⊢; omega
    · rw [if_pos ⟨rfl, hx⟩, rw1_true]
      have hf : ∀ y, y ∈ l.filter (fun x => !decide (x = s)) ↔ y ∈ l ∧ y ≠ s := fun y => by simp
      have hfl : (l.filter (fun x => !decide (x = s))).length ≤ l.length := List.length_filter_le _ _
      have hfs : Srt (l.filter (fun x => !decide (x = s))) := srt_sub List.filter_sublist (srt_tail hl)
      by_cases he : x = s
      · rw [if_pos he]
        have hn : s ∉ l := by rw [← he]; exact srt_notin hl
        refine ⟨List.pairwise_append.2 ⟨srt_snoc ho h1, hfs, fun y hy z hz => ?_⟩, fun y => ?_, by simp at hfl ⊢; omega⟩
        · have hz' := ((hf z).1 hz).1
          rcases List.mem_append.1 hy with h | h
          · exact h2 y h z (by simp [hz'])
          · rw [List.mem_singleton.1 h, ← he]; exact srt_head hl z hz'
        · rw [List.mem_append, hf]; simp; grind
      · rw [if_neg he]
        have hsx : s.toList < x.toList := lt_or hx he
        have hn : s ∉ l := fun h => lti _ (ltt hsx (srt_head hl s h))
        have hso : Srt (out ++ [s] ++ [x]) := srt_snoc (srt_snoc ho h1) fun y hy => by
          rcases List.mem_append.1 hy with h | h
          · exact h2 y h x (by simp)
          · rw [List.mem_singleton.1 h]; exact hsx
        refine ⟨List.pairwise_append.2 ⟨hso, hfs, fun y hy z hz => ?_⟩, fun y => ?_, by simp at hfl ⊢; omega⟩
        · have hz' := ((hf z).1 hz).1
          rcases List.mem_append.1 hy with h | h
          · rcases List.mem_append.1 h with h | h
            · exact h2 y h z (by simp [hz'])
            · rw [List.mem_singleton.1 h]; exact ltt hsx (srt_head hl z hz')
          · rw [List.mem_singleton.1 h]; exact srt_head hl z hz'
        · rw [List.mem_append, hf]; simp; grind

theorem own_nil {w : World} {B n : Nat} {A : Option Addr} {c : Nat} {xs : List Value} (h : w.ownsRow B 9 1 (.slice A n c) n xs) : A = none → c = 0 := by
  intro e; subst e
  rcases h.2 with ⟨e, _⟩ | ⟨g, cap, cur, e, _⟩
  · injection e
  · injection e with e1; cases e1

/-- ref08.With in a set -/
theorem rwith_is (A : Option Addr) (l : List ByteArray) (c : Nat) (s : ByteArray) (w : World) (ha : Rd w A l) (hs : Srt l) (hn : l.length < 2 ^ 30) :
    Calls Try.prog 26 #[.slice A l.length c, .string s] w fun e w' => ∃ (r : List ByteArray) (C : Option Addr) (k : Nat), e = .returned (.slice C r.length k) ∧ RowKit.Hid (Srt r ∧ (∀ x, x ∈ r ↔ x ∈ l ∨ x = s) ∧ r.length ≤ l.length + 1) ∧ RowKit.Hid (Rd w' C r) ∧ RowKit.Hid ((C = none → k = 0) ∧ r.length ≤ k ∧ k ≤ maxLen) ∧ Below w.heap.size w w' := by
  refine (rwith_raw A l c s w ha hn).mono ?_
  rintro e w1 ⟨C, k, rfl, hown, hb⟩
  have h := rw1_set s l [] hs List.Pairwise.nil (by simp) (by simp)
  exact ⟨_, C, k, rfl, Lib.hid ⟨h.1, fun x => (h.2.1 x).trans (by simp), by simpa using h.2.2⟩, Lib.hid (own_rd hown.out).1, Lib.hid ⟨own_nil hown.out, (own_rd hown.out).2.2⟩, hb⟩

theorem rmake_is (A : Option Addr) (l : List ByteArray) (c : Nat) (w : World) (ha : Rd w A l) (hn : l.length < 2 ^ 29) :
    Calls Try.prog 16 #[.slice A l.length c] w fun e w' => ∃ (m : List ByteArray) (C : Option Addr) (k : Nat), e = .returned (.slice C m.length k) ∧ RowKit.Hid (MadeOf l m) ∧ RowKit.Hid (Rd w' C m) ∧ RowKit.Hid ((C = none → k = 0) ∧ m.length ≤ k ∧ k ≤ maxLen) ∧ Below w.heap.size w w' := by
  go_enter Try.func16, Try.ntmps16
  have HA := Lib.hid ha
  clear ha
  go_wp2_with fail
  go_loopw [3, 4] (fun v i wr => ∃ (k n c0 : Nat) (C : Option Addr) (o : List ByteArray), v = .slice C n c0 ∧ k ≤ l.length ∧ i = .int .i64 k ∧ n ≤ k ∧ RowKit.Hid (o.length = n) ∧ RowKit.Hid (Rd wr C o) ∧ RowKit.Hid ((C = none → c0 = 0) ∧ o.length ≤ c0 ∧ c0 ≤ maxLen) ∧ RowKit.Hid (Below w.heap.size w wr) ∧ RowKit.Hid (Srt o ∧ ∀ x, x ∈ o ↔ x ∈ l.take k)) (fun _ i _ => l.length - (intOf i).toNat)
  case atStart => exact ⟨0, 0, 0, none, [], rfl, Nat.zero_le _, rfl, Nat.le_refl _, Lib.hid rfl, Lib.hid (.inl rfl), Lib.hid ⟨fun _ => rfl, Nat.le_refl _, Nat.zero_le _⟩, Lib.hid (Below.refl _ _), Lib.hid ⟨List.Pairwise.nil, by simp⟩⟩
  case round =>
    obtain ⟨k, n, c0, C, o, rfl, hk, rfl, hnk, hol, HO, HN, HB, HS⟩ := hrel
    by_cases hlt : k < l.length
    · obtain ⟨b1, o1, rfl⟩ := HA.out.addr (by omega)
      have h0 := HA.out.cell hlt
      obtain ⟨x, hx⟩ : ∃ x, x = l[k] := ⟨_, rfl⟩
      rw [← hx] at h0
      have HX := Lib.hid hx
      clear hx
      have hx0 := cell_below HB.out h0
      clear h0
      have hc := rwith_is C o c0 x wr HO.out HS.out.1 (by rw [hol.out]; omega)
      rw [hol.out] at hc
      have HC := Lib.hid hc
      clear hc
      go_wp2_with (go_at_call 26; refine HC.out.mono ?_; rintro e w1 ⟨r, D, kk, rfl, hr, hrd, hnn, hb1⟩; have HB1 := Lib.hid hb1; clear hb1)
      refine ⟨⟨k + 1, r.length, kk, D, r, rfl, by omega, by go_num, by have := hr.out.2.2; omega, Lib.hid rfl, hrd, hnn, Lib.hid (HB.out.trans (HB1.out.mono HB.out.size)), Lib.hid ⟨hr.out.1, fun y => ?_⟩⟩, by simp [intOf]; omega⟩
      rw [hr.out.2.1, HS.out.2, List.take_succ_eq_append_getElem hlt, List.mem_append, List.mem_singleton, HX.out]
    · have hlen : n ≤ l.length := by omega
      have hkl : k = l.length := by omega
      have hon := hol.out
      subst hon
      go_wp2
      go_ret
      have hmade : MadeOf l o := ⟨HS.out.1, fun y => by rw [HS.out.2, hkl, List.take_length], hlen⟩
      first | exact ⟨o, C, c0, rfl, Lib.hid hmade, HO, HN, HB.out⟩
end Go.Proofs.Ytojnhgeffnjndaa.T
