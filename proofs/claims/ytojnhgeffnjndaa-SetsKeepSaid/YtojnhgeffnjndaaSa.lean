import Derived.Test.YtojnhgeffnjndaaProg
import Derived.Test.YtojnhgeffnjndaaS9
import Derived.Test.YtojnhgeffnjndaaS2
import Derived.WalkKit
import Derived.Outline
import Derived.WalkLawsBesides
import Derived.Deep.QuietTactic
import Derived.BigQuiet
import Derived.Lib.Hide
import Derived.Handy
import Derived.Deep.RegionHeld3
import Derived.Deep.DrawnRows
import Derived.Sort.Walk0
import Derived.Great.Walk
import Derived.OneCell
import Derived.OwnWalk
import Derived.Laws.OwnMore
namespace Go.Proofs.Ytojnhgeffnjndaa.T
open Go Go.RowKit Mem Go.Great
set_option maxRecDepth 100000
set_option maxHeartbeats 8000000
set_option linter.unusedVariables false
set_option linter.unusedSimpArgs false

/-- ref08.With, as it goes: the first k texts looked at. -/
def rw1 (s : ByteArray) : List ByteArray → Bool → List ByteArray → List ByteArray
  | [], done, out => if done then out else out ++ [s]
  | x :: l, done, out =>
    if done = false ∧ ¬ x.toList < s.toList then rw1 s l true (if x = s then out ++ [s] else out ++ [s] ++ [x])
    else rw1 s l done (if x = s then out else out ++ [x])

theorem push_row {w : World} {B n : Nat} {v : Value} {o : List ByteArray} {s : ByteArray} (h : w.ownsRow B 9 1 v n (vs o ++ [.string s])) : w.ownsRow B 9 1 v n (vs (o ++ [s])) := by simpa [vs] using h
theorem push_below {n : Nat} {w wr w1 : World} {v : Value} {xs : List Value} {ob : Obj} (hb : Below w.heap.size w wr) (hown : wr.ownsRow w.heap.size 9 1 v n xs) (hg : (wr.alloc ob).grownBy w1 v.ownBlock) : Below w.heap.size w w1 :=
  (hb.alloc hb.size ob).grown hg (by have := hb.size; rw [alloc_size]; omega) (fun k hk => own_lt hown k hk)
theorem own_len {w : World} {B n : Nat} {v : Value} {o : List ByteArray} (h : w.ownsRow B 9 1 v n (vs o)) : o.length = n := by have := h.1; simpa [vs] using this

theorem rwith_raw (A : Option Addr) (l : List ByteArray) (c : Nat) (s : ByteArray) (w : World) (ha : Rd w A l) (hn : l.length < 2 ^ 30) :
    Calls Try.prog 26 #[.slice A l.length c, .string s] w fun e w' => ∃ C k, e = .returned (.slice C (rw1 s l false []).length k) ∧ RowKit.Hid (w'.ownsRow w.heap.size 9 1 (.slice C (rw1 s l false []).length k) (rw1 s l false []).length (vs (rw1 s l false []))) ∧ Below w.heap.size w w' := by
  obtain ⟨i0, hi, hz0, hz1, hz2⟩ := info_parts info9
  go_enter Try.func26, Try.ntmps26
  have HA := Lib.hid ha
  obtain ⟨R, hR⟩ : ∃ R, R = rw1 s l false [] := ⟨_, rfl⟩
  rw [← hR]
  have HR := Lib.hid hR
  clear ha hR
  go_wp2_with fail
  go_loopw [5, 6, 7] (fun v d i wr => ∃ (v0 : Value) (k n : Nat) (done : Bool) (o : List ByteArray), v0 = v ∧ k ≤ l.length ∧ i = .int .i64 k ∧ d = .bool done ∧ n ≤ 2 * k ∧ RowKit.Hid (o.length = n) ∧ RowKit.Hid (wr.ownsRow w.heap.size 9 1 v n (vs o)) ∧ RowKit.Hid (Below w.heap.size w wr) ∧ RowKit.Hid (rw1 s (l.drop k) done o = R)) (fun _ _ i _ => l.length - (intOf i).toNat)
  case atStart => exact ⟨_, 0, 0, false, [], rfl, Nat.zero_le _, rfl, rfl, Nat.le_refl _, Lib.hid rfl, Lib.hid (World.ownsRow_nil _ _ _ _), Lib.hid (Below.refl _ _), Lib.hid HR.out.symm⟩
  case round =>
    obtain ⟨v0, k, n, done, o, rfl, hk, rfl, rfl, hnk, hol, HO0, HB0, hspec⟩ := hrel
    by_cases hlt : k < l.length
    · obtain ⟨b1, o1, rfl⟩ := HA.out.addr (by omega)
      have h0 := HA.out.cell hlt
      obtain ⟨x, hx⟩ : ∃ x, x = l[k] := ⟨_, rfl⟩
      rw [← hx] at h0
      have hdrop : l.drop k = x :: l.drop (k + 1) := by rw [hx]; exact List.drop_eq_getElem_cons hlt
      have HD := Lib.hid hdrop
      have H0 := Lib.hid h0
      clear hx hdrop
      have hx0 := cell_below HB0.out h0
      clear h0
      by_cases hp : done = false ∧ ¬ x.toList < s.toList
      · obtain ⟨rfl, hge⟩ := hp
        have HGE := Lib.hid hge
        have e1 : (!Op.bytesLess x.toList s.toList) = true := by rw [bytesLess_eq]; simpa using hge
        clear hge
        by_cases heq : x = s
        · have HE := Lib.hid heq
          have e2 : (!x.toList == s.toList) = false := by simp [heq]
          clear heq
          go_wp2_with (at_builtin; refine wpList_append_own _ rfl (.tmp 24) (.tmp 26) 22 rfl w.heap.size 9 i0 _ 1 16 Try.underlying22 hi hz0 hz1 hz2 rfl (by decide) v0 n (vs o) rfl (HO0.out.alloc _) ⟨wr.heap.size, 0, none⟩ 1 1 [.string s] rfl rfl (by intro j u hj; cases j with | zero => (simp at hj; subst hj; simp [Addr.add]) | succ => simp at hj) (by intro u hu; simp at hu; subst hu; rfl) (by (try simp only [List.length_append, List.length_cons, List.length_nil]); unfold maxLen; omega) (by (try simp only [List.length_append, List.length_cons, List.length_nil]); omega) (by have := (HB0.out).size; rw [alloc_size]; omega) ?_; intro v1 w1 hown hg _; have HO1 := Lib.hid (push_row hown); have HB1 := Lib.hid (push_below HB0.out HO0.out hg); have hx1 := cell_below HB1.out H0.out; clear hown hg)
          exact ⟨⟨_, k + 1, n + 1, true, o ++ [s], rfl, by omega, by go_num, rfl, by omega, Lib.hid (by simp [hol.out]), HO1, HB1, Lib.hid (by rw [← hspec.out, HD.out, rw1, if_pos ⟨rfl, HGE.out⟩, if_pos HE.out])⟩, by simp [intOf]; omega⟩
        · have HE := Lib.hid heq
          have e2 : (!x.toList == s.toList) = true := by simp; exact fun h => heq (ba_inj h)
          clear heq
          go_wp2_with (first | (at_builtin; refine wpList_append_own _ rfl (.tmp 24) (.tmp 26) 22 rfl w.heap.size 9 i0 _ 1 16 Try.underlying22 hi hz0 hz1 hz2 rfl (by decide) v0 n (vs o) rfl (HO0.out.alloc _) ⟨wr.heap.size, 0, none⟩ 1 1 [.string s] rfl rfl (by intro j u hj; cases j with | zero => (simp at hj; subst hj; simp [Addr.add]) | succ => simp at hj) (by intro u hu; simp at hu; subst hu; rfl) (by (try simp only [List.length_append, List.length_cons, List.length_nil]); unfold maxLen; omega) (by (try simp only [List.length_append, List.length_cons, List.length_nil]); omega) (by have := (HB0.out).size; rw [alloc_size]; omega) ?_; intro v1 w1 hown hg _; have HO1 := Lib.hid (push_row hown); have HB1 := Lib.hid (push_below HB0.out HO0.out hg); have hx1 := cell_below HB1.out H0.out; clear hown hg) | (at_builtin; refine wpList_append_own _ rfl (.tmp 34) (.tmp 39) 22 rfl w.heap.size 9 i0 _ 1 16 Try.underlying22 hi hz0 hz1 hz2 rfl (by decide) v1 (n + 1) (vs (o ++ [s])) rfl (HO1.out.alloc _) ⟨w1.heap.size, 0, none⟩ 1 1 [.string x] rfl rfl (by intro j u hj; cases j with | zero => (simp at hj; subst hj; simp [Addr.add]) | succ => simp at hj) (by intro u hu; simp at hu; subst hu; rfl) (by (try simp only [List.length_append, List.length_cons, List.length_nil]); unfold maxLen; omega) (by (try simp only [List.length_append, List.length_cons, List.length_nil]); omega) (by have := (HB1.out).size; rw [alloc_size]; omega) ?_; intro v2 w2 hown hg _; have HO2 := Lib.hid (push_row hown); have HB2 := Lib.hid (push_below HB1.out HO1.out hg);  clear hown hg))
          exact ⟨⟨_, k + 1, n + 1 + 1, true, o ++ [s] ++ [x], rfl, by omega, by go_num, rfl, by omega, Lib.hid (by simp [hol.out]), HO2, HB2, Lib.hid (by rw [← hspec.out, HD.out, rw1, if_pos ⟨rfl, HGE.out⟩, if_neg HE.out])⟩, by simp [intOf]; omega⟩
      · have HP := Lib.hid hp
        have e1 : (!done && !Op.bytesLess x.toList s.toList) = false := by rw [bytesLess_eq]; cases done <;> simp at hp ⊢; exact hp
        have e3 : done = false → (!Op.bytesLess x.toList s.toList) = false := by intro h; subst h; simpa using e1
        clear hp e1
        by_cases heq : x = s
        · have HE := Lib.hid heq
          have e2 : (!x.toList == s.toList) = false := by simp [heq]
          clear heq
          cases done
          · have e4 := e3 rfl
            clear e3
            go_wp2
            exact ⟨⟨_, k + 1, n, false, o, rfl, by omega, by go_num, rfl, by omega, hol, HO0, HB0, Lib.hid (by rw [← hspec.out, HD.out, rw1, if_neg HP.out, if_pos HE.out])⟩, by simp [intOf]; omega⟩
          · clear e3
            go_wp2
            exact ⟨⟨_, k + 1, n, true, o, rfl, by omega, by go_num, rfl, by omega, hol, HO0, HB0, Lib.hid (by rw [← hspec.out, HD.out, rw1, if_neg HP.out, if_pos HE.out])⟩, by simp [intOf]; omega⟩
        · have HE := Lib.hid heq
          have e2 : (!x.toList == s.toList) = true := by simp; exact fun h => heq (ba_inj h)
          clear heq
          cases done
          · have e4 := e3 rfl
            clear e3
            go_wp2_with (at_builtin; refine wpList_append_own _ rfl (.tmp 34) (.tmp 39) 22 rfl w.heap.size 9 i0 _ 1 16 Try.underlying22 hi hz0 hz1 hz2 rfl (by decide) v0 n (vs o) rfl (HO0.out.alloc _) ⟨wr.heap.size, 0, none⟩ 1 1 [.string x] rfl rfl (by intro j u hj; cases j with | zero => (simp at hj; subst hj; simp [Addr.add]) | succ => simp at hj) (by intro u hu; simp at hu; subst hu; rfl) (by (try simp only [List.length_append, List.length_cons, List.length_nil]); unfold maxLen; omega) (by (try simp only [List.length_append, List.length_cons, List.length_nil]); omega) (by have := (HB0.out).size; rw [alloc_size]; omega) ?_; intro v1 w1 hown hg _; have HO1 := Lib.hid (push_row hown); have HB1 := Lib.hid (push_below HB0.out HO0.out hg);  clear hown hg)
            exact ⟨⟨_, k + 1, n + 1, false, o ++ [x], rfl, by omega, by go_num, rfl, by omega, Lib.hid (by simp [hol.out]), HO1, HB1, Lib.hid (by rw [← hspec.out, HD.out, rw1, if_neg HP.out, if_neg HE.out])⟩, by simp [intOf]; omega⟩
          · clear e3
            go_wp2_with (at_builtin; refine wpList_append_own _ rfl (.tmp 34) (.tmp 39) 22 rfl w.heap.size 9 i0 _ 1 16 Try.underlying22 hi hz0 hz1 hz2 rfl (by decide) v0 n (vs o) rfl (HO0.out.alloc _) ⟨wr.heap.size, 0, none⟩ 1 1 [.string x] rfl rfl (by intro j u hj; cases j with | zero => (simp at hj; subst hj; simp [Addr.add]) | succ => simp at hj) (by intro u hu; simp at hu; subst hu; rfl) (by (try simp only [List.length_append, List.length_cons, List.length_nil]); unfold maxLen; omega) (by (try simp only [List.length_append, List.length_cons, List.length_nil]); omega) (by have := (HB0.out).size; rw [alloc_size]; omega) ?_; intro v1 w1 hown hg _; have HO1 := Lib.hid (push_row hown); have HB1 := Lib.hid (push_below HB0.out HO0.out hg);  clear hown hg)
            exact ⟨⟨_, k + 1, n + 1, true, o ++ [x], rfl, by omega, by go_num, rfl, by omega, Lib.hid (by simp [hol.out]), HO1, HB1, Lib.hid (by rw [← hspec.out, HD.out, rw1, if_neg HP.out, if_neg HE.out])⟩, by simp [intOf]; omega⟩
    · have hdrop : l.drop k = [] := List.drop_eq_nil_of_le (by omega)
      have HD := Lib.hid hdrop
      clear hdrop
      cases done
      · go_wp2_with (at_builtin; refine wpList_append_own _ rfl (.tmp 43) (.tmp 45) 22 rfl w.heap.size 9 i0 _ 1 16 Try.underlying22 hi hz0 hz1 hz2 rfl (by decide) v0 n (vs o) rfl (HO0.out.alloc _) ⟨wr.heap.size, 0, none⟩ 1 1 [.string s] rfl rfl (by intro j u hj; cases j with | zero => (simp at hj; subst hj; simp [Addr.add]) | succ => simp at hj) (by intro u hu; simp at hu; subst hu; rfl) (by (try simp only [List.length_append, List.length_cons, List.length_nil]); unfold maxLen; omega) (by (try simp only [List.length_append, List.length_cons, List.length_nil]); omega) (by have := (HB0.out).size; rw [alloc_size]; omega) ?_; intro v1 w1 hown hg _; have HO1 := Lib.hid (push_row hown); have HB1 := Lib.hid (push_below HB0.out HO0.out hg);  clear hown hg)
        go_ret
        have e : o ++ [s] = R := by rw [← hspec.out, HD.out, rw1]; simp
        have hl : R.length = n + 1 := by rw [← e]; simp [hol.out]
        obtain ⟨A1, c1, rfl⟩ := own_slice HO1.out
        rw [hl]
        exact ⟨A1, c1, rfl, Lib.hid (by rw [← e]; exact HO1.out), HB1.out⟩
      · go_wp2
        go_ret
        have e : o = R := by rw [← hspec.out, HD.out, rw1]; simp
        have hl : R.length = n := by rw [← e]; exact hol.out
        obtain ⟨A0, c0, rfl⟩ := own_slice HO0.out
        rw [hl]
        exact ⟨A0, c0, rfl, Lib.hid (by rw [← e]; exact HO0.out), HB0.out⟩
end Go.Proofs.Ytojnhgeffnjndaa.T
